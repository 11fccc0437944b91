/- The reader of JSON: the contract by hand of value, by induction. -/
import Derived.Test.YtbonodglnilkfaaGreatDoorValP
import Derived.Carry
import Derived.Tactics2
import Derived.Defers
import Derived.Recover
import Derived.Laws.Pointers
import Derived.RegionTactic
import Derived.ChangeAlike
import Derived.BigRegion
namespace Go.Proofs.YtbonodglnilkfaaGreatDoor.Read
open Go Go.RowKit Go.Proofs.YtbonodglnilkfaaGreatDoorW.PrintWords Go.Proofs.YtbonodglnilkfaaGreatDoorW.PrintLast Go.Proofs.YtbonodglnilkfaaGreatDoor.Str Go.Proofs.YtbonodglnilkfaaGreatDoor.Tchs Go.Proofs.YtbonodglnilkfaaGreatDoor.Tree Go.Proofs.YtbonodglnilkfaaGreatDoor.Val
set_option linter.unusedVariables false
set_option linter.unusedSimpArgs false
theorem valAt_zero (g : Nat) (s : ByteArray) : ValAt g s 0 := fun w p rg tw _ hp hd _ _ => by omega
set_option maxRecDepth 100000 in
set_option maxHeartbeats 8000000 in
theorem valAt_succ (g : Nat) (s : ByteArray) (hs : s.size ≤ 1048576) (hg4 : 5 < g ∧ 1 < g) (d : Nat) (ih : ValAt g s d) : ValAt g s (d + 1) := by
 intro w p rg tw h hp hd hT hE
 have IH := Lib.hid ih
 have H := Lib.hid h
 have HTB := Lib.hid hT
 have HEV := Lib.hid hE
 have hgl := h.lt
 have HDs := Lib.hid hd
 have HGL := Lib.hid hgl
 clear ih h hT hE hd hgl
 go_enter Tryz.func68, Tryz.ntmps68
 go_wp2_with fail
 have HR1 := Lib.hid (Rdr.below H.out (below_alloc (Below.refl w.heap.size w) (.cells #[.pointer (some ⟨g, 0, none⟩)] 57)))
 have HT1 := Lib.hid (Tch.alloc (Tch.refl w (fun k => k = g)) (.cells #[.pointer (some ⟨g, 0, none⟩)] 57))
 have HRB1 := Lib.hid (heap_alloc_new w (.cells #[.pointer (some ⟨g, 0, none⟩)] 57))
 have HRN := Lib.hid (show w.heap.size ≠ g from fun e => by have := HGL.out; omega)
 generalize w.alloc (.cells #[.pointer (some ⟨g, 0, none⟩)] 57) = w1 at HR1 HT1 HRB1 ⊢
 refine (blanks g s p _ _ _ HR1.out hp hs).mono ?_
 rintro e w2 ⟨rfl, hr2, ht2⟩
 have HR2 := Lib.hid hr2
 have HT2 := Lib.hid (Tch.then_ HT1.out ht2 (fun k hk => .inl hk))
 have HRB2 := Lib.hid (blk_kept HRB1.out ht2.kept HRN.out)
 have c2 := blk_cell HRB2.out 0
 simp only [List.getElem?_toArray, List.getElem?_cons_zero] at c2
 have hk2 := runF_le isB s p
 have HK2 := Lib.hid (show p ≤ skip s p ∧ skip s p ≤ s.size from ⟨hk2.1, hk2.2 hp⟩)
 clear hr2 ht2 HR1 HT1 HRB1 hk2
 generalize hqe : skip s p = q at HR2 HK2
 have HQ := Lib.hid hqe
 clear hqe
 go_wp2_with fail
 by_cases hqs : s.size ≤ q
 ·refine (peek_no g s q _ _ _ HR2.out hqs hs).mono ?_
  rintro e w3 ⟨rfl, hb3⟩
  have HE := Lib.hid (val_end s d q hqs)
  exact ⟨rfl, fun t r hh => (by rw [HQ.out, HE.out] at hh; cases hh), fun _ => rfl, Tch.below HT2.out hb3⟩
 have hqs' : q < s.size := by omega
 refine (peek_ok g s q _ _ _ HR2.out hqs' hs).mono ?_
 rintro e w3 ⟨rfl, hb3⟩
 have HR3 := Lib.hid (Rdr.below HR2.out hb3)
 have HT3 := Lib.hid (Tch.below HT2.out hb3)
 have HRB3 := Lib.hid (blk_below HRB2.out hb3)
 have c3 := blk_cell HRB3.out 0
 simp only [List.getElem?_toArray, List.getElem?_cons_zero] at c3
 clear hb3 HR2 HT2 HRB2 c2 hqs
 by_cases h110 : bt s (q : Int) = 110
 ·have d110 : (bt s (q : Int) == 110) = true := beq_iff_eq.2 h110
  have HE := Lib.hid (val_n s d q h110)
  clear h110
  go_wp2_with fail
  cases hw : isW s q wNull with
  | false =>
   refine (want_no g s q _ _ wNull _ HR3.out HK2.out.2 hs (by rw [pre_w s q _ HK2.out.2, hw])).mono ?_
   rintro e w4 ⟨rfl, hb4⟩
   have HE2 := HE.out
   rw [hw] at HE2
   exact ⟨rfl, fun t r hh => (by rw [HQ.out, HE2] at hh; cases hh), fun _ => rfl, Tch.below HT3.out hb4⟩
  | true =>
   refine (want_ok g s q _ _ wNull _ HR3.out HK2.out.2 hs (by rw [pre_w s q _ HK2.out.2, hw]) (by decide)).mono ?_
   rintro e w4 ⟨rfl, hr4, ht4⟩
   have HR4 := Lib.hid hr4
   have HT4 := Lib.hid (Tch.then_ HT3.out ht4 (fun k hk => .inl hk))
   clear hr4 ht4 HR3 HT3 HRB3 c3
   go_wp2_with fail
   go_ret
   have HE2 := HE.out
   rw [hw, if_pos rfl] at HE2
   refine ⟨fun t r hh => ?_, fun hh => (by rw [HQ.out, HE2] at hh; cases hh), HT4.out⟩
   rw [HQ.out, HE2] at hh
   injection hh with hh
   injection hh with hh1 hh2
   subst hh1
   subst hh2
   exact ⟨_, rfl, by rw [norm, V]; rfl, by simp only [big, twice, Bool.or_false]; exact HR4.out⟩
 have n110 : (bt s (q : Int) == 110) = false := beq_eq_false_iff_ne.2 h110
 by_cases h116 : bt s (q : Int) = 116
 ·have d116 : (bt s (q : Int) == 116) = true := beq_iff_eq.2 h116
  have HE := Lib.hid (val_t s d q h116)
  clear h116
  go_wp2_with fail
  cases hw : isW s q wTrue with
  | false =>
   refine (want_no g s q _ _ wTrue _ HR3.out HK2.out.2 hs (by rw [pre_w s q _ HK2.out.2, hw])).mono ?_
   rintro e w4 ⟨rfl, hb4⟩
   have HE2 := HE.out
   rw [hw] at HE2
   exact ⟨rfl, fun t r hh => (by rw [HQ.out, HE2] at hh; cases hh), fun _ => rfl, Tch.below HT3.out hb4⟩
  | true =>
   refine (want_ok g s q _ _ wTrue _ HR3.out HK2.out.2 hs (by rw [pre_w s q _ HK2.out.2, hw]) (by decide)).mono ?_
   rintro e w4 ⟨rfl, hr4, ht4⟩
   have HR4 := Lib.hid hr4
   have HT4 := Lib.hid (Tch.then_ HT3.out ht4 (fun k hk => .inl hk))
   clear hr4 ht4 HR3 HT3 HRB3 c3
   go_wp2_with fail
   go_ret
   have HE2 := HE.out
   rw [hw, if_pos rfl] at HE2
   refine ⟨fun t r hh => ?_, fun hh => (by rw [HQ.out, HE2] at hh; cases hh), HT4.out⟩
   rw [HQ.out, HE2] at hh
   injection hh with hh
   injection hh with hh1 hh2
   subst hh1
   subst hh2
   exact ⟨_, rfl, by rw [norm, V]; rfl, by simp only [big, twice, Bool.or_false]; exact HR4.out⟩
 have n116 : (bt s (q : Int) == 116) = false := beq_eq_false_iff_ne.2 h116
 by_cases h102 : bt s (q : Int) = 102
 ·have d102 : (bt s (q : Int) == 102) = true := beq_iff_eq.2 h102
  have HE := Lib.hid (val_f s d q h102)
  clear h102
  go_wp2_with fail
  cases hw : isW s q wFalse with
  | false =>
   refine (want_no g s q _ _ wFalse _ HR3.out HK2.out.2 hs (by rw [pre_w s q _ HK2.out.2, hw])).mono ?_
   rintro e w4 ⟨rfl, hb4⟩
   have HE2 := HE.out
   rw [hw] at HE2
   exact ⟨rfl, fun t r hh => (by rw [HQ.out, HE2] at hh; cases hh), fun _ => rfl, Tch.below HT3.out hb4⟩
  | true =>
   refine (want_ok g s q _ _ wFalse _ HR3.out HK2.out.2 hs (by rw [pre_w s q _ HK2.out.2, hw]) (by decide)).mono ?_
   rintro e w4 ⟨rfl, hr4, ht4⟩
   have HR4 := Lib.hid hr4
   have HT4 := Lib.hid (Tch.then_ HT3.out ht4 (fun k hk => .inl hk))
   clear hr4 ht4 HR3 HT3 HRB3 c3
   go_wp2_with fail
   go_ret
   have HE2 := HE.out
   rw [hw, if_pos rfl] at HE2
   refine ⟨fun t r hh => ?_, fun hh => (by rw [HQ.out, HE2] at hh; cases hh), HT4.out⟩
   rw [HQ.out, HE2] at hh
   injection hh with hh
   injection hh with hh1 hh2
   subst hh1
   subst hh2
   exact ⟨_, rfl, by rw [norm, V]; rfl, by simp only [big, twice, Bool.or_false]; exact HR4.out⟩
 have n102 : (bt s (q : Int) == 102) = false := beq_eq_false_iff_ne.2 h102
 by_cases h34 : bt s (q : Int) = 34
 ·have d34 : (bt s (q : Int) == 34) = true := beq_iff_eq.2 h34
  have HE := Lib.hid (val_q s d q hqs' h34)
  clear h34
  go_wp2_with fail
  refine (str g s q _ _ _ HR3.out HK2.out.2 hs (tabs_tch HTB.out HT3.out (by have := hg4.2; omega) (by have := hg4.2; omega)) (by have := hg4.2; omega)).mono ?_
  rintro e w4 ⟨hok, hno, ht4⟩
  have HT4 := Lib.hid (Tch.then_ HT3.out ht4 (fun k hk => .inl hk))
  cases hn : strF s q with
  | none =>
   obtain ⟨rfl, _⟩ := hno hn
   have HE2 := HE.out
   rw [hn] at HE2
   exact ⟨rfl, fun t r hh => (by rw [HQ.out, HE2] at hh; cases hh), fun _ => rfl, HT4.out⟩
  | some y =>
   obtain ⟨b0, r0⟩ := y
   obtain ⟨rfl, hr4⟩ := hok b0 r0 hn
   have HR4 := Lib.hid hr4
   clear hok hno ht4 hr4 HR3 HT3 HRB3 c3
   go_wp2_with fail
   go_ret
   have HE2 := HE.out
   rw [hn] at HE2
   refine ⟨fun t r hh => ?_, fun hh => (by rw [HQ.out, HE2] at hh; cases hh), HT4.out⟩
   rw [HQ.out, HE2] at hh
   injection hh with hh
   injection hh with hh1 hh2
   subst hh1
   subst hh2
   exact ⟨_, rfl, by rw [norm, V]; rfl, by simp only [big, twice, Bool.or_false]; exact HR4.out⟩
 have n34 : (bt s (q : Int) == 34) = false := beq_eq_false_iff_ne.2 h34
 by_cases h91 : bt s (q : Int) = 91
 ·have d91 : (bt s (q : Int) == 91) = true := beq_iff_eq.2 h91
  have HE := Lib.hid (val_arr s d q hqs' h91)
  clear h91
  have HW := Lib.hid (show Inv1 g s d q (w3.heap.size + 1) w.heap.size rg tw w ((w3.alloc (.cells #[] 42)).alloc (.cells #[.slice (some ⟨w3.heap.size, 0, none⟩) 0 0] 99)) q [] from by
   have hz : w.heap.size ≤ w3.heap.size := HT3.out.kept.1
   have hz1 : (w3.alloc (.cells #[] 42)).heap.size = w3.heap.size + 1 := by simp
   refine ⟨?_, Nat.le_refl _, blk_alloc (blk_alloc HRB3.out _) _, ⟨.slice (some ⟨w3.heap.size, 0, none⟩) 0 0, [], ?_, ?_, ?_⟩, Tch.alloc (Tch.alloc HT3.out _) _, Nat.zero_le _, ⟨by omega, Nat.le_refl _⟩⟩
   ·rw [bigL, twiceL, Bool.or_false, Bool.or_false]; exact blk_alloc (blk_alloc HR3.out _) _
   ·have := heap_alloc_new (w3.alloc (.cells #[] 42)) (.cells #[.slice (some ⟨w3.heap.size, 0, none⟩) 0 0] 99)
    rw [hz1] at this
    exact this
   ·have h := World.ownsRow_lit (base := w.heap.size) (e := 42) (size := 1) w3 #[] 0 hz (by decide) (by rfl)
    exact own_alloc (by simpa using h) _
   ·rw [normL, VL])
  have cA := blk_cell (blk_alloc (blk_alloc HRB3.out (.cells #[] 42)) (.cells #[.slice (some ⟨w3.heap.size, 0, none⟩) 0 0] 99)) 0
  simp only [List.getElem?_toArray, List.getElem?_cons_zero] at cA
  go_wp2_with fail
  refine (arr_items g s hs hg4 d IH.out q _ _ rg tw w _ HGL.out HTB.out HEV.out (by have := HDs.out; have := HK2.out.1; omega) HW.out hqs').mono ?_
  rintro e w4 ⟨hok, hno⟩
  cases hn : itF s (step1 s d) 93 q [] with
  | none =>
   obtain ⟨rfl, ht4⟩ := hno hn
   have HE2 := HE.out
   rw [hn] at HE2
   exact ⟨rfl, fun t r hh => (by rw [HQ.out, HE2] at hh; cases hh), fun _ => rfl, ht4⟩
  | some y =>
   obtain ⟨l0, r0⟩ := y
   obtain ⟨rfl, hi⟩ := hok l0 r0 hn
   have HI := Lib.hid hi
   obtain ⟨u, cs, hb, hrow, hvl⟩ := hi.ob
   have cB := blk_cell hb 0
   simp only [List.getElem?_toArray, List.getElem?_cons_zero] at cB
   obtain ⟨A, n, rfl⟩ := own_slice hrow
   have HROW := Lib.hid hrow
   have HVL := Lib.hid hvl
   clear hok hno hi hb hrow hvl HR3 HT3 HRB3 c3 HW cA
   go_wp2_with fail
   go_ret
   have HE2 := HE.out
   rw [hn] at HE2
   refine ⟨fun t r hh => ?_, fun hh => (by rw [HQ.out, HE2] at hh; cases hh), HI.out.tch⟩
   rw [HQ.out, HE2] at hh
   injection hh with hh
   injection hh with hh1 hh2
   subst hh1
   subst hh2
   refine ⟨_, rfl, ?_, by rw [big, twice]; exact HI.out.rd⟩
   rw [norm, V]
   exact ⟨_, cs, rfl, by rw [normL_len]; exact own_weaken HROW.out (Nat.zero_le _), fun k hk => own_base HROW.out k hk, VL_mono HVL.out (fun k hk => hk.1)⟩
 have n91 : (bt s (q : Int) == 91) = false := beq_eq_false_iff_ne.2 h91
 by_cases h123 : bt s (q : Int) = 123
 ·have d123 : (bt s (q : Int) == 123) = true := beq_iff_eq.2 h123
  have HE := Lib.hid (val_obj s d q hqs' h123)
  clear h123
  have hmm := @run_makeMap Tryz.prog
  have HW := Lib.hid (show Inv2 g s d q (w3.heap.size + 1) w.heap.size rg tw w ((w3.alloc (.map #[] 0)).alloc (.cells #[.map (some w3.heap.size)] 101)) q [] from by
   have hz : w.heap.size ≤ w3.heap.size := HT3.out.kept.1
   have hz1 : (w3.alloc (.map #[] 0)).heap.size = w3.heap.size + 1 := by simp
   refine ⟨?_, Nat.le_refl _, blk_alloc (blk_alloc HRB3.out _) _, ⟨w3.heap.size, 0, [], ?_, hz, Nat.le_refl _, ?_, ?_⟩, Tch.alloc (Tch.alloc HT3.out _) _, Nat.zero_le _, ⟨by omega, Nat.le_refl _⟩⟩
   ·rw [bigM, twiceM, Bool.or_false, Bool.or_false]; exact blk_alloc (blk_alloc HR3.out _) _
   ·have := heap_alloc_new (w3.alloc (.map #[] 0)) (.cells #[.map (some w3.heap.size)] 101)
    rw [hz1] at this
    exact this
   ·exact map_step (World.ownsMap_made w3 Tryz.prog 9 Rd) (Below.heap_alloc _ _ _ (by rw [hz1]; omega))
   ·rw [normM, VM])
  have cA := blk_cell (blk_alloc (blk_alloc HRB3.out (.map #[] 0)) (.cells #[.map (some w3.heap.size)] 101)) 0
  simp only [List.getElem?_toArray, List.getElem?_cons_zero] at cA
  go_wp2_with fail
  refine (obj_items g s hs hg4 d IH.out q _ _ rg tw w _ HGL.out HTB.out HEV.out (by have := HDs.out; have := HK2.out.1; omega) HW.out hqs').mono ?_
  rintro e w4 ⟨hok, hno⟩
  cases hn : itF s (step2 s d) 125 q [] with
  | none =>
   obtain ⟨rfl, ht4⟩ := hno hn
   have HE2 := HE.out
   rw [hn] at HE2
   exact ⟨rfl, fun t r hh => (by rw [HQ.out, HE2] at hh; cases hh), fun _ => rfl, ht4⟩
  | some y =>
   obtain ⟨l0, r0⟩ := y
   obtain ⟨rfl, hi⟩ := hok l0 r0 hn
   have HI := Lib.hid hi
   obtain ⟨m, n, ds, hb, hm, hnn, hmap, hvm⟩ := hi.ob
   have cB := blk_cell hb 0
   simp only [List.getElem?_toArray, List.getElem?_cons_zero] at cB
   have HM0 := Lib.hid hm
   have HMAP := Lib.hid hmap
   have HVM := Lib.hid hvm
   clear hok hno hi hb hm hnn hmap hvm HR3 HT3 HRB3 c3 HW cA
   go_wp2_with fail
   go_ret
   have HE2 := HE.out
   rw [hn] at HE2
   refine ⟨fun t r hh => ?_, fun hh => (by rw [HQ.out, HE2] at hh; cases hh), HI.out.tch⟩
   rw [HQ.out, HE2] at hh
   injection hh with hh
   injection hh with hh1 hh2
   subst hh1
   subst hh2
   refine ⟨_, rfl, ?_, by rw [big, twice]; exact HI.out.rd⟩
   rw [norm, V]
   exact ⟨m, n, ds, rfl, HM0.out, HMAP.out, VM_mono HVM.out (fun k hk => hk.1)⟩
 have n123 : (bt s (q : Int) == 123) = false := beq_eq_false_iff_ne.2 h123
 have HE := Lib.hid (val_num s d q h110 h116 h102 h34 h91 h123)
 clear h110 h116 h102 h34 h91 h123
 go_wp2_with fail
 refine (number g s q _ _ _ HR3.out HK2.out.2 hs (EV.tch HEV.out HT3.out (by have := hg4.1; omega)) hg4.1).mono ?_
 rintro e w4 ⟨hok, hno, ht4⟩
 have HT4 := Lib.hid (Tch.then_ HT3.out ht4 (fun k hk => .inl hk))
 cases hn : numF s q with
 | none =>
  obtain rfl := hno hn
  have HE2 := HE.out
  rw [hn] at HE2
  exact ⟨rfl, fun t r hh => (by rw [HQ.out, HE2] at hh; cases hh), fun _ => rfl, HT4.out⟩
 | some r0 =>
  obtain ⟨rfl, hr4⟩ := hok r0 hn
  have HR4 := Lib.hid hr4
  clear hok hno ht4 hr4 HR3 HT3 HRB3 c3
  go_wp2_with fail
  go_ret
  have HE2 := HE.out
  rw [hn] at HE2
  refine ⟨fun t r hh => ?_, fun hh => (by rw [HQ.out, HE2] at hh; cases hh), HT4.out⟩
  rw [HQ.out, HE2] at hh
  injection hh with hh
  injection hh with hh1 hh2
  subst hh1
  subst hh2
  exact ⟨_, rfl, by rw [norm, V]; exact ⟨_, rfl, rfl, (numV_range _).1, (numV_range _).2⟩, by simp only [big, twice, Bool.or_false]; exact HR4.out⟩
theorem valAt (g : Nat) (s : ByteArray) (hs : s.size ≤ 1048576) (hg4 : 5 < g ∧ 1 < g) : ∀ d, ValAt g s d
 | 0 => valAt_zero g s
 | d + 1 => valAt_succ g s hs hg4 d (valAt g s hs hg4 d)
end Go.Proofs.YtbonodglnilkfaaGreatDoor.Read
namespace Go.Proofs.YtbonodglnilkfaaGreatDoor.Read
open Go Go.RowKit Go.Proofs.YtbonodglnilkfaaGreatDoorW.PrintWords Go.Proofs.YtbonodglnilkfaaGreatDoor.Str Go.Proofs.YtbonodglnilkfaaGreatDoor.Tchs Go.Proofs.YtbonodglnilkfaaGreatDoor.Tree Go.Proofs.YtbonodglnilkfaaGreatDoor.Val
set_option linter.unusedVariables false
set_option linter.unusedSimpArgs false
set_option maxRecDepth 100000 in
set_option maxHeartbeats 4000000 in
theorem catchV_panicking (a b : Nat) (x : Value) (y : Bool) (w : World) (ha : w.heap[a]? = some (.cells #[x] 42 (0, 0))) (hb : w.heap[b]? = some (.cells #[.bool y] 4 (0, 0))) (hab : a ≠ b) :
  CallsD Tryz.prog 67 #[.pointer (some ⟨a, 0, none⟩), .pointer (some ⟨b, 0, none⟩)] (.panicking noForm) w fun e u' w' =>
   e = .returned (.tuple #[]) ∧ u' = .panicking [{ v := .iface 55 (.agg #[]), recovered := true }] ∧ w'.heap[a]? = some (.cells #[.nilIface] 42 (0, 0)) ∧ w'.heap[b]? = some (.cells #[.bool false] 4 (0, 0)) ∧ Tch w w' (fun k => k = a ∨ k = b) := by
 refine callsD_of_wpS Tryz.func67 rfl fun c₀ cs hu => ?_
 apply wpS_seq
 apply wpS_region
 simp [wpOpsS, go_sem, recoverD, hu, Tryz.ntmps67, Exit.thenS]
 apply wpS_seq
 apply wpS_region
 simp [wpOpsS, go_sem, Exit.thenS]
 refine wpS_cond (t := true) (by simp [Act.eval, Array.replicate]) ?_
 simp only [if_true]
 refine wpS_of_wp ?_
 have h0 := blk_cell (blk_alloc ha (.cells #[] 55)) 0
 have h1 := blk_cell (blk_alloc hb (.cells #[] 55)) 0
 have f0 := blk_frozen (blk_alloc ha (.cells #[] 55)) 0
 have f1 := blk_frozen (blk_alloc hb (.cells #[] 55)) 0
 have has : ∀ W : World, (Instr.typeAssert (.iface 55 (.agg #[])) 20 55 true).run Tryz.prog W = .ok (.tuple #[.agg #[], .bool true]) W := fun W => by kernel_rfl
 go_wp2_with fail
 refine ⟨rfl, _, rfl, .tuple #[], ?_, rfl, rfl, ?_, ?_, ?_⟩
 ·simp [results, Tryz.results67, go_sem]
 ·exact blk_far (blk_set (blk_alloc ha (.cells #[] 55)) 0 .nilIface) hab _
 ·exact blk_set (blk_far (blk_alloc hb (.cells #[] 55)) (fun h => hab h.symm) _) 0 (.bool false)
 ·exact Tch.setCell (Tch.setCell (Tch.alloc (Tch.refl w _) _) (p := ⟨a, 0, none⟩) (.inl (.inl rfl)) _) (p := ⟨b, 0, none⟩) (.inl (.inr rfl)) _
set_option maxRecDepth 100000 in
theorem catchV_idle (a b : Nat) (w : World) :
  CallsD Tryz.prog 67 #[.pointer (some ⟨a, 0, none⟩), .pointer (some ⟨b, 0, none⟩)] .returning w fun e u' w' => e = .returned (.tuple #[]) ∧ u' = .returning ∧ w' = w := by
 refine callsD_of_wpS Tryz.func67 rfl fun c₀ cs hu => ?_
 apply wpS_seq
 apply wpS_region
 simp [wpOpsS, go_sem, recoverD, hu, Tryz.ntmps67, Exit.thenS]
 apply wpS_seq
 apply wpS_region
 simp [wpOpsS, go_sem, Exit.thenS]
 refine wpS_cond (t := false) (by simp [Act.eval, Array.replicate]) ?_
 simp only [Bool.false_eq_true, if_false]
 refine wpS_of_wp (wp_skip ?_)
 cases c₀
 simp_all [bodyPostS, results, Tryz.results67]
def readT (s : ByteArray) : Option (T × Nat) := val s (s.size + 1) (skip s 0)
set_option maxRecDepth 100000 in
set_option maxHeartbeats 4000000 in
theorem read (s : ByteArray) (w : World) (hs : s.size ≤ 1048576) (hT : Lib.Utf8Tabs 0 1 w) (hE : EV w) (hz : 5 < w.heap.size ∧ 1 < w.heap.size) :
  Calls Tryz.prog 44 #[.string s] w fun e w' =>
   (∀ t q, readT s = some (t, q) → ∃ g v, e = .returned (.tuple #[.pointer (some ⟨g, 0, none⟩), v, .bool (decide (skip s q = s.size))]) ∧ V w' (fun k => w.heap.size ≤ k) (norm t) v ∧ Rdr w' g s (skip s q) (big bigB t) (twice t) ∧ w.heap.size ≤ g) ∧
   (readT s = none → ∃ g, e = .returned (.tuple #[.pointer (some ⟨g, 0, none⟩), .nilIface, .bool false])) ∧ Below w.heap.size w w' := by
 have hmf : ∀ (fn : Fn) (first cap : Array Value) (w : World), (Instr.makeFunc fn first cap).run Tryz.prog w = .ok (.func fn first cap) w := fun _ _ _ _ => rfl
 go_enter_defers Tryz.func44, Tryz.ntmps44
 have hR0 := heap_alloc_new ((w.alloc (.cells #[.nilIface] 42)).alloc (.cells #[.bool false] 4)) (.cells #[.string s, .int .i64 0, .bool false, .bool false] 59)
 simp only [World.size_alloc] at hR0
 have HR := Lib.hid (show Rdr (((w.alloc (.cells #[.nilIface] 42)).alloc (.cells #[.bool false] 4)).alloc (.cells #[.string s, .int .i64 0, .bool false, .bool false] 59)) (w.heap.size + 1 + 1) s 0 false false from hR0)
 have HA := Lib.hid (blk_alloc (blk_alloc (heap_alloc_new w (.cells #[.nilIface] 42)) (.cells #[.bool false] 4)) (.cells #[.string s, .int .i64 0, .bool false, .bool false] 59))
 have hb0 := blk_alloc (heap_alloc_new (w.alloc (.cells #[.nilIface] 42)) (.cells #[.bool false] 4)) (.cells #[.string s, .int .i64 0, .bool false, .bool false] 59)
 simp only [World.size_alloc] at hb0
 have HBK := Lib.hid hb0
 have HB := Lib.hid (show Below w.heap.size w (((w.alloc (.cells #[.nilIface] 42)).alloc (.cells #[.bool false] 4)).alloc (.cells #[.string s, .int .i64 0, .bool false, .bool false] 59)) from below_alloc (below_alloc (below_alloc (Below.refl _ _) _) _) _)
 have HT3 := Lib.hid (tabs_tch hT (Tch.of_below HB.out (fun _ => False)) (fun h => h) (fun h => h))
 have HE3 := Lib.hid (EV.tch hE (Tch.of_below HB.out (fun _ => False)) (fun h => h))
 clear hR0 hb0 hT hE
 go_wp2_with fail
 refine (valAt (w.heap.size + 1 + 1) s hs ⟨by omega, by omega⟩ (s.size + 1) _ 0 false false HR.out (Nat.zero_le _) (by omega) HT3.out HE3.out).mono ?_
 rintro e w1 ⟨hok, hno, ht1⟩
 have HA1 := Lib.hid (blk_kept HA.out ht1.kept (by omega))
 have HBK1 := Lib.hid (blk_kept HBK.out ht1.kept (by omega))
 have HB1 := Lib.hid (HB.out.trans (Tch.to_below ht1 (B := w.heap.size) HB.out.size (fun k hk => by omega)))
 have HRT := Lib.hid (show readT s = val s (s.size + 1) (skip s 0) from rfl)
 cases hx : val s (s.size + 1) (skip s 0) with
 | none =>
  obtain rfl := hno hx
  have HN := Lib.hid (show readT s = none from HRT.out.trans hx)
  clear hok hno ht1 hx HRT
  go_wp2_with fail
  refine leaves_cons (f := 67) (args := #[.pointer (some ⟨w.heap.size, 0, none⟩), .pointer (some ⟨w.heap.size + 1, 0, none⟩)]) (by simp) (by simp [go_sem]) ?_
  refine (catchV_panicking w.heap.size (w.heap.size + 1) _ _ _ HA1.out HBK1.out (by omega)).mono ?_
  rintro e u' w2 ⟨rfl, rfl, ha2, hb2, ht2⟩
  have c0 := blk_cell ha2 0
  have c1 := blk_cell hb2 0
  simp only [List.getElem?_toArray, List.getElem?_cons_zero] at c0 c1
  simp [Leaves, settle, results, Tryz.results44, go_sem, c0, c1]
  refine ⟨fun t q hh => (by rw [HN.out] at hh; cases hh), HB1.out.trans (Tch.to_below ht2 (B := w.heap.size) HB1.out.size (fun k hk => by omega))⟩
 | some tq =>
  obtain ⟨t, q⟩ := tq
  obtain ⟨v, rfl, hv, hr⟩ := hok t q hx
  obtain ⟨T', x', rfl⟩ := V_iface hv
  have hle := val_le s _ _ t q hx
  have HS := Lib.hid (show readT s = some (t, q) from HRT.out.trans hx)
  have HV := Lib.hid hv
  have HR1 := Lib.hid hr
  have c0 := blk_cell HA1.out 0
  have f0 := blk_frozen HA1.out 0
  simp only [List.getElem?_toArray, List.getElem?_cons_zero] at c0
  clear hok hno ht1 hx HRT hv hr
  go_wp2_with fail
  have HA2 := Lib.hid (blk_set HA1.out 0 (.iface T' x'))
  have HBK2 := Lib.hid (blk_far HBK1.out (p := ⟨w.heap.size, 0, none⟩) (by show w.heap.size + 1 ≠ w.heap.size; omega) (.iface T' x'))
  have HR2 := Lib.hid (show Rdr _ _ _ _ _ _ from blk_far HR1.out (p := ⟨w.heap.size, 0, none⟩) (by show w.heap.size + 1 + 1 ≠ w.heap.size; omega) (.iface T' x'))
  have HV2 := Lib.hid (V_tch HV.out (Tch.setCell (Tch.refl w1 (fun k => k = w.heap.size)) (p := ⟨w.heap.size, 0, none⟩) (.inl rfl) (.iface T' x')) (fun k hk e => by have := HB.out.size; have e : k = w.heap.size := e; simp only [World.size_alloc] at hk; omega))
  have HB2 := Lib.hid (HB1.out.setCell (p := ⟨w.heap.size, 0, none⟩) (by show w.heap.size ≤ w.heap.size; omega) (.iface T' x'))
  clear c0 f0
  refine (blanks (w.heap.size + 1 + 1) s q _ _ _ HR2.out hle.2 hs).mono ?_
  rintro e w2 ⟨rfl, hr3, ht3⟩
  have HR3 := Lib.hid hr3
  have HA3 := Lib.hid (blk_kept HA2.out ht3.kept (by omega))
  have HBK3 := Lib.hid (blk_kept HBK2.out ht3.kept (by omega))
  have HV3 := Lib.hid (V_tch HV2.out ht3 (fun k hk e => by have e : k = w.heap.size + 1 + 1 := e; simp only [World.size_alloc] at hk; omega))
  have HB3 := Lib.hid (HB2.out.trans (Tch.to_below ht3 (B := w.heap.size) HB2.out.size (fun k hk => by omega)))
  have c0 := blk_cell HA3.out 0
  have f0 := blk_frozen HA3.out 0
  have f1 := blk_frozen HBK3.out 0
  have c1 := blk_cell HBK3.out 0
  simp only [List.getElem?_toArray, List.getElem?_cons_zero] at c0 c1
  obtain ⟨r0, r1, _⟩ := hr3.at_
  clear hr3 ht3 HV HV2 HR1 HR2 HA1 HA2 HBK1 HBK2
  generalize hq2 : skip s q = q2 at HR3 r1
  have HQ2 := Lib.hid hq2
  clear hq2
  go_wp2_with fail
  go_region
  have HA5 := Lib.hid (blk_far (blk_set HA3.out 0 (.iface T' x')) (p := ⟨w.heap.size + 1, 0, none⟩) (by show w.heap.size ≠ w.heap.size + 1; omega) (.bool ((q2 : Int) == (s.size : Int))))
  have HBK5 := Lib.hid (blk_set (blk_far HBK3.out (p := ⟨w.heap.size, 0, none⟩) (by show w.heap.size + 1 ≠ w.heap.size; omega) (.iface T' x')) 0 (.bool ((q2 : Int) == (s.size : Int))))
  have HR5 := Lib.hid (show Rdr _ _ _ _ _ _ from blk_far (blk_far HR3.out (p := ⟨w.heap.size, 0, none⟩) (by show w.heap.size + 1 + 1 ≠ w.heap.size; omega) (.iface T' x')) (p := ⟨w.heap.size + 1, 0, none⟩) (by show w.heap.size + 1 + 1 ≠ w.heap.size + 1; omega) (.bool ((q2 : Int) == (s.size : Int))))
  have HV5 := Lib.hid (V_tch HV3.out (Tch.setCell (Tch.setCell (Tch.refl w2 (fun k => k = w.heap.size ∨ k = w.heap.size + 1)) (p := ⟨w.heap.size, 0, none⟩) (.inl (.inl rfl)) (.iface T' x')) (p := ⟨w.heap.size + 1, 0, none⟩) (.inl (.inr rfl)) (.bool ((q2 : Int) == (s.size : Int)))) (fun k hk e => by simp only [World.size_alloc] at hk; omega))
  have HB5 := Lib.hid ((HB3.out.setCell (p := ⟨w.heap.size, 0, none⟩) (by show w.heap.size ≤ w.heap.size; omega) (.iface T' x')).setCell (p := ⟨w.heap.size + 1, 0, none⟩) (by show w.heap.size ≤ w.heap.size + 1; omega) (.bool ((q2 : Int) == (s.size : Int))))
  clear HA3 HBK3 HR3 HV3 HB3 c0 c1 f0 f1 r0 r1
  generalize (w2.setCell ⟨w.heap.size, 0, none⟩ (.iface T' x')).setCell ⟨w.heap.size + 1, 0, none⟩ (.bool ((q2 : Int) == (s.size : Int))) = w5 at HA5 HBK5 HR5 HV5 HB5 ⊢
  have c0 : w5.cell? ⟨w.heap.size, 0, none⟩ = some (.iface T' x') := blk_cell HA5.out 0
  have c1 : w5.cell? ⟨w.heap.size + 1, 0, none⟩ = some (.bool ((q2 : Int) == (s.size : Int))) := blk_cell HBK5.out 0
  have HEQ := Lib.hid (show ((q2 : Int) == (s.size : Int)) = decide (q2 = s.size) from by rw [Bool.eq_iff_iff, beq_iff_eq, decide_eq_true_eq]; omega)
  go_wp2_with fail
  refine leaves_cons (f := 67) (args := #[.pointer (some ⟨w.heap.size, 0, none⟩), .pointer (some ⟨w.heap.size + 1, 0, none⟩)]) (by simp) (by simp [go_sem]) ?_
  refine (catchV_idle w.heap.size (w.heap.size + 1) _).mono ?_
  rintro e u' w6 ⟨rfl, rfl, rfl⟩
  have d0 : w5.drew.cell? ⟨w.heap.size, 0, none⟩ = some (.iface T' x') := c0
  have d1 : w5.drew.cell? ⟨w.heap.size + 1, 0, none⟩ = some (.bool ((q2 : Int) == (s.size : Int))) := c1
  simp [Leaves, settle, results, Tryz.results44, go_sem, d0, d1]
  refine ⟨fun t' q' hh => ?_, by rw [HS.out]; simp, below_drew HB5.out⟩
  rw [HS.out] at hh
  injection hh with hh
  injection hh with hh1 hh2
  subst hh1
  subst hh2
  refine ⟨_, _, ⟨rfl, rfl, by rw [HEQ.out, HQ2.out]⟩, V_mono (V_below HV5.out (below_drew (Below.refl _ _))) (fun k hk => by simp only [World.size_alloc] at hk; omega), ?_, by omega⟩
  have h5 := HR5.out
  rw [Bool.false_or, Bool.false_or] at h5
  rw [HQ2.out]
  exact h5
end Go.Proofs.YtbonodglnilkfaaGreatDoor.Read
