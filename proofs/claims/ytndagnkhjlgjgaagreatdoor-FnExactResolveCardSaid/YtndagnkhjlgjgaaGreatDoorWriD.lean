/- impl.write: an object; and impl.write. Printed by gen/mkwrite.py. -/
import Derived.Test.YtndagnkhjlgjgaaGreatDoorWriC
namespace Go.Proofs.YtndagnkhjlgjgaaGreatDoor.Impl
open Go Go.Proofs Go.RowKit Go.Maps YtndagnkhjlgjgaaGreatDoorW.PrintWords YtndagnkhjlgjgaaGreatDoorW.PrintLast Str Read Val Tree Pf Tchs
set_option linter.unusedVariables false
set_option linter.unusedSimpArgs false
theorem own_others {w w' : World} {b : Nat} {v : Value} {n : Nat} {xs : List Value} (h : w.ownsRow b 9 1 v n xs) (ht : Lib.OthersKept 5 none w w') : w'.ownsRow b 9 1 v n xs := by
 refine own_move h (fun k hk => ?_)
 obtain ⟨cells, hc⟩ := own_typed h k hk
 rw [hc]
 refine ht k _ hc (by simp) ?_
 intro c fz e
 injection e with _ e2
 exact absurd e2 (by decide)
theorem cell_one {w : World} {g : Nat} {x : Int} (h : w.cell? ⟨g, 0, none⟩ = some (.int .u8 x)) : ∀ (j : Nat) (u : Value), (nums .u8 [x])[j]? = some u → w.cell? ((⟨g, 0, none⟩ : Addr).add j) = some u := by
 intro j u hu
 cases j with
 | zero =>
  simp [nums] at hu
  subst hu
  exact h
 | succ j => simp [nums] at hu
theorem VM_get {w : World} {ok : Nat → Prop} : ∀ {l : List (ByteArray × T)} {ds : List (ByteArray × Value)}, VM w ok l ds → ∀ (i : Nat) (p : ByteArray × T), l[i]? = some p → ∃ c, ds[i]? = some (p.1, c) ∧ V w ok p.2 c
 | [], ds, h, i, p, hi => by simp at hi
 | (k, t) :: l, ds, h, i, p, hi => by
  rw [VM] at h
  obtain ⟨c1, r, rfl, h1, h2⟩ := h
  cases i with
  | zero => simp at hi; subst hi; exact ⟨c1, rfl, h1⟩
  | succ i => exact VM_get h2 i p (by simpa using hi)
set_option maxRecDepth 100000 in
set_option maxHeartbeats 8000000 in
theorem write_obj (l : List (ByteArray × T)) (hs : l.Pairwise (fun a b => keyB a b = true)) (hz : (ctsM l).length ≤ 1000000) (hk : ∀ p ∈ l, WriteOf p.2) : WriteOf (.obj l) := by
 intro w0 w ok v A c acc a3 hB hv hpow hown hl ha
 rw [V] at hv
 obtain ⟨g, nn, ds, rfl, hg, hmap, hvm⟩ := hv
 obtain ⟨cs, hcs⟩ : ∃ cs : List (List Int), cs = l.map fun p => quo p.1 ++ 58 :: cts p.2 := ⟨_, rfl⟩
 have hct : cts (.obj l) = 123 :: ((jn cs).drop 1 ++ [125]) := by rw [cts, jn_ctsM, hcs]
 have hcl : cs.length = l.length := by rw [hcs, List.length_map]
 have hsd : ds.Pairwise (fun a b => keyB a b = true) := VM_sorted hvm hs
 have hln : ds.length = l.length := VM_len hvm
 have hky : ds.map (·.1) = l.map (·.1) := VM_keys hvm
 have hjz : (jn cs).length ≤ 1000000 := by rw [hcs, ← jn_ctsM]; exact hz
 have hjg : l.length ≤ 1000000 := by have := jn_ge cs; omega
 rw [hct] at ha hl
 have hll : acc.length + (jn cs).length + 1 ≤ 100000000 := by
  rw [List.length_cons, List.length_append, List.length_drop] at hl
  simp at hl
  omega
 have ha1 := asr_object_truth (.map (some g))
 have ha2 := asr_object_number (.map (some g))
 have ha3 := asr_object_text (.map (some g))
 have ha4 := asr_object_list (.map (some g))
 have ha5 := asr_object_object (.map (some g))
 have HLL := Lib.hid (show ∀ k, (h : k < l.length) → acc.length + (jn (cs.take k)).length + ((quo l[k].1).length + (cts l[k].2).length + 1) + 2 ≤ 100000000 ∧ k ≤ (jn (cs.take k)).length ∧ l[k].1.size ≤ 1000000 from fun k hk => by
  have h1 := jn_len cs k (by omega)
  have h2 := jn_ge (cs.take k)
  have e : cs[k]'(by omega) = quo l[k].1 ++ 58 :: cts l[k].2 := by simp [hcs]
  rw [e, List.length_append, List.length_cons] at h1
  rw [List.length_take] at h2
  have h3 := quo_ge l[k].1
  exact ⟨by omega, by omega, by omega⟩)
 have HNX := Lib.hid (show ∀ k, (h : k < l.length) → ((jn (cs.take (k + 1))).drop 1 = if k = 0 then quo l[k].1 ++ 58 :: cts l[k].2 else (jn (cs.take k)).drop 1 ++ 44 :: (quo l[k].1 ++ 58 :: cts l[k].2)) from fun k hk => by
  have e : cs[k]'(by omega) = quo l[k].1 ++ 58 :: cts l[k].2 := by simp [hcs]
  by_cases h0 : k = 0
  ·rw [if_pos h0, ← e]
   subst h0
   exact jn_first cs (by omega)
  ·rw [if_neg h0, jn_more cs k (by omega) (by omega), e])
 have HC := Lib.hid (show ∀ W, Below w0.heap.size w0 W → Calls Tryz.prog 74 #[.map (some g)] W fun e w' => ∃ A n, e = .returned (.slice A l.length n) ∧ w'.ownsRow W.heap.size 9 1 (.slice A l.length n) l.length (l.map fun p => .string p.1) ∧ Below W.heap.size W w' from fun W hb => by
  refine (Go.Proofs.YtndagnkhjlgjgaaGreatDoor.Keys.keys W g nn ds (map_step hmap (hb.block g (map_lt hmap))) hsd (by omega)).mono ?_
  rintro e w' ⟨v, rfl, h1, h2⟩
  have e1 : (ds.map fun p => Value.string p.1) = l.map fun p => .string p.1 := by
   have := congrArg (List.map Value.string) hky
   rw [List.map_map, List.map_map] at this
   exact this
  rw [hln, e1] at h1
  obtain ⟨A, n, rfl⟩ := own_slice h1
  exact ⟨A, n, rfl, h1, h2⟩)
 have HVM := Lib.hid (show ∀ k, (h : k < l.length) → ∃ T' x', V w0 ok l[k].2 (.iface T' x') ∧ ∀ W, Below w0.heap.size w0 W → (Instr.lookup 103 (.map (some g)) (.string l[k].1) false).run Tryz.prog W = .ok (.iface T' x') W from fun k hk => by
  obtain ⟨ck, hck, hvk⟩ := VM_get hvm k l[k] (List.getElem?_eq_getElem hk)
  obtain ⟨T', x', rfl⟩ := V_iface hvk
  have h1 := quo_ge l[k].1
  have h2 := HLL.out k hk
  exact ⟨T', x', hvk, fun W hb => look W g nn ds (map_step hmap (hb.block g (map_lt hmap))) hsd k _ hck (by show l[k].1.size ≤ _; omega)⟩)
 have HB := Lib.hid hB
 have HO := Lib.hid hown
 have HA := Lib.hid ha
 have HLC := Lib.hid hl
 have HP := Lib.hid hpow
 have HK := Lib.hid hk
 have HJZ := Lib.hid (show l.length ≤ 1000000 ∧ cs.length = l.length from ⟨hjg, hcl⟩)
 obtain ⟨a1, hae⟩ : ∃ a1, a1 = acc ++ [123] := ⟨_, rfl⟩
 have HAE := Lib.hid hae
 have HL1 := Lib.hid (show acc.length + 1 ≤ 140737488355328 from by omega)
 clear hB hown hl ha hpow hk hg hmap hvm hct hll hae hcl hsd hln hky hjz hjg hs hz hcs
 go_enter Tryz.func62, Tryz.ntmps62
 go_wp2_with (first | (at_builtin; refine wp_append_byte rfl w0.heap.size (.tmp 61) (.tmp 62) 44 5 rfl Tryz.underlying44 info5 (.slice A acc.length c) acc 123 rfl rfl HO.out HB.out.size HL1.out ?_; intro v1 w1 hown1 hg1; rw [← HAE.out] at hown1; obtain ⟨A1, c1, rfl⟩ := own_slice hown1; have HO1 := Lib.hid hown1; have HB1 := Lib.hid (Below.grown HB.out hg1 HB.out.size (fun k hk => own_base HO.out k hk)); have HT1 := Lib.hid (grown_others HO.out hg1); clear hown1 hg1))
 refine (HC.out _ HB1.out).mono ?_
 rintro e w2 ⟨Ak, ck, rfl, hrow, hb2⟩
 have HROW := Lib.hid hrow
 have HO2 := Lib.hid (own_below HO1.out hb2)
 have HB2 := Lib.hid (below_then HB1.out HB1.out.size hb2)
 have HT2 := Lib.hid (HT1.out.trans (below_others hb2))
 clear hrow hb2 HO1 HB1 HT1
 go_wp2_with fail
 go_loopw [0, 67] (fun v0 v67 wr => ∃ (k : Nat) (b : List Int), v67 = .int .i64 (k : Int) ∧ Hid (k ≤ l.length) ∧ Hid (b = acc ++ 123 :: (jn (cs.take k)).drop 1) ∧ Hid (wr.ownsRow w0.heap.size 5 1 v0 b.length (nums .u8 b)) ∧ Hid (Below w0.heap.size w0 wr) ∧ Hid (Lib.OthersKept 5 none w2 wr)) (fun _ v67 _ => l.length - (intOf v67).toNat)
 case atStart => exact ⟨0, a1, by simp, Lib.hid (Nat.zero_le _), Lib.hid (by rw [HAE.out]; rfl), HO2, HB2, Lib.hid (Lib.OthersKept.refl _ _ _)⟩
 case round =>
  clear HO2 HB2
  obtain ⟨k, b, rfl, HKL, HBE, HO1, HB1, HT1⟩ := hrel
  obtain ⟨A1, c1, rfl⟩ := own_slice HO1.out
  by_cases hkn : k < l.length
  ·have d1 : decide ((k : Int) < (l.length : Int)) = true := decide_eq_true (by omega)
   have d1n : decide (k < l.length) = true := decide_eq_true hkn
   have p4 : ((0 : Int) ≤ (k : Int)) = True := eq_true (by omega)
   have q4 : ((k : Int) < (l.length : Int)) = True := eq_true (by omega)
   have HKN := Lib.hid hkn
   obtain ⟨gg, cap, e0, hbg, hcell⟩ := own_cell (own_others HROW.out HT1.out) (by omega)
   cases e0
   have hx0 := hcell k (.string l[k].1) (by rw [List.getElem?_map, List.getElem?_eq_getElem hkn]; rfl)
   obtain ⟨T', x', hvk, hlook⟩ := HVM.out k hkn
   obtain ⟨hlk, hjk, hkz⟩ := HLL.out k hkn
   have hnx := HNX.out k hkn
   have hwk := HK.out l[k] (List.getElem_mem hkn)
   have hbl : b.length = acc.length + 1 + ((jn (cs.take k)).length - 1) := by
    rw [HBE.out, List.length_append, List.length_cons, List.length_drop]
    omega
   have hw2 : IntKind.i64.wrap ((k : Int) + 1) = (k : Int) + 1 := by rw [IntKind.wrap_i64]; have := HJZ.out.1; omega
   generalize l[k].1 = ky at hx0 hlook hlk hkz hnx
   generalize l[k].2 = tk at hvk hlk hnx hwk
   by_cases hk0 : k = 0
   ·rw [if_pos hk0] at hnx
    have d2 : decide ((0 : Int) < (k : Int)) = false := decide_eq_false (by omega)
    have d2n : decide (0 < k) = false := decide_eq_false (by omega)
    obtain ⟨b5, hb5⟩ : ∃ b5, b5 = b ++ quo ky := ⟨_, rfl⟩
    obtain ⟨b6, hb6⟩ : ∃ b6, b6 = b5 ++ [58] := ⟨_, rfl⟩
    obtain ⟨b7, hb7⟩ : ∃ b7, b7 = b6 ++ cts tk := ⟨_, rfl⟩
    have hzero : (jn (cs.take k)) = [] := by rw [hk0]; rfl
    have hl5 : b5.length = b.length + (quo ky).length := by rw [hb5, List.length_append]
    have hl6 : b6.length = b5.length + 1 := by rw [hb6, List.length_append]; rfl
    have hz0 : (jn (cs.take k)).length = 0 := by rw [hzero]; rfl
    have HLK := Lib.hid hlook
    have HQ := Lib.hid (fun (W : World) (A2 : Option Addr) (c2 : Nat) (hB : Below w0.heap.size w0 W) (ho : W.ownsRow w0.heap.size 5 1 (.slice A2 b.length c2) b.length (nums .u8 b)) => quotedK w0 W hB _ b b5 ky ho (by omega) (by omega) hb5)
    have HCK := Lib.hid (fun (W : World) (A2 : Option Addr) (c2 : Nat) (hB : Below w0.heap.size w0 W) (ho : W.ownsRow w0.heap.size 5 1 (.slice A2 b6.length c2) b6.length (nums .u8 b6)) => child hwk hB hvk HP.out ho (by omega) hb7)
    have HB7 := Lib.hid (show b7 = acc ++ 123 :: (jn (cs.take (k + 1))).drop 1 by rw [hb7, hb6, hb5, HBE.out, hnx, hzero]; simp)
    have HB6 := Lib.hid hb6
    have HL6 := Lib.hid (show b5.length + ([58] : List Int).length ≤ 140737488355328 by simp; omega)
    clear hb7 hb6 hb5 hnx hlk hjk hbl hl5 hl6 hz0 hcell hvk hbg hk0 hzero hkn hlook hwk hkz
    go_wp2_with fail
    refine start_ (n := 10) (S := fun w' => Below w0.heap.size w0 w') (ds := []) #[false, false, false, false, false, false, false, false, false, false] (by kernel_rfl) rfl rfl (below_drew HB1.out) (fun hH => ?_)
    refine take_ (i := 0) (N := some 77) (v := .slice A1 b.length c1) (a' := ?_) #[true, false, false, false, false, false, false, false, false, false] rfl rfl (by kernel_rfl) (fun _ _ _ h => h) (Or.inl ⟨by rfl, ?_⟩) hH ?_ ?_
    ·rintro w2 y0
     go_simp
    rotate_left
    ·simp only [Act.put, List.setIfInBounds_toArray, List.set_cons_zero, List.set_cons_succ]
     rfl
    refine take_ (i := 1) (N := some 78) (v := .string ky) (a' := ?_) #[true, true, false, false, false, false, false, false, false, false] rfl rfl (by kernel_rfl) (fun _ _ _ h => h) (Or.inl ⟨by rfl, ?_⟩) hH ?_ ?_
    ·rintro w2 y0
     go_simp
    rotate_left
    ·simp only [Act.put, List.setIfInBounds_toArray, List.set_cons_zero, List.set_cons_succ]
     rfl
    refine take_ (i := 5) (N := some 82) (v := .map (some g)) (a' := ?_) #[true, true, false, false, false, true, false, false, false, false] rfl rfl (by kernel_rfl) (fun _ _ _ h => h) (Or.inl ⟨by rfl, ?_⟩) hH ?_ ?_
    ·rintro w2 y0
     go_simp
    rotate_left
    ·simp only [Act.put, List.setIfInBounds_toArray, List.set_cons_zero, List.set_cons_succ]
     rfl
    refine take_ (i := 6) (N := some 83) (v := .string ky) (a' := ?_) #[true, true, false, false, false, true, true, false, false, false] rfl rfl (by kernel_rfl) (fun _ _ _ h => h) (Or.inl ⟨by rfl, ?_⟩) hH ?_ ?_
    ·rintro w2 y0
     go_simp
    rotate_left
    ·simp only [Act.put, List.setIfInBounds_toArray, List.set_cons_zero, List.set_cons_succ]
     rfl
    refine take_ (i := 7) (N := some 84) (v := .iface T' x') (a' := ?_) #[true, true, false, false, false, true, true, true, false, false] rfl rfl (by kernel_rfl) (fun _ _ _ h => h) (Or.inl ⟨by rfl, ?_⟩) hH ?_ ?_
    ·rintro w2 y0
     have hlook := HLK.out w2 y0
     go_simp
    rotate_left
    ·simp only [Act.put, List.setIfInBounds_toArray, List.set_cons_zero, List.set_cons_succ]
     rfl
    refine join_ (σ := Option Addr × Nat × Nat) 3 #[true, true, true, true, false, true, true, true, false, false] (fun s => [(79, .slice s.1 b5.length s.2.1), (80, .slice (some ⟨s.2.2, 0, none⟩) 1 1)]) (fun s w' => Hid (w'.ownsRow w0.heap.size 5 1 (.slice s.1 b5.length s.2.1) b5.length (nums .u8 b5)) ∧ Hid (Below w0.heap.size w0 w') ∧ Hid (Lib.OthersKept 5 none wr w') ∧ Hid (w'.cell? ⟨s.2.2, 0, none⟩ = some (.int .u8 58))) ?_ (fun hJ => ?_)
    rotate_left
    ·have HJ := Lib.hid hJ
     clear hJ
     refine two_ (i := 2) (j := 3) (Ni := some 79) (Nj := some 80) #[true, true, true, false, false, true, true, true, false, false] #[true, true, false, true, false, true, true, true, false, false] rfl rfl rfl rfl (by kernel_rfl) (by decide) (by decide) (fun K hK => ?_) (fun K hK => ?_)
     ·refine goes_ Tryz.func110 (by kernel_rfl) rfl #[.slice A1 b.length c1, .string ky] (by rfl) rfl rfl (by (try simp only [List.map_toArray, List.map_cons, List.map_nil]); rfl) ?_
      refine (HQ.out _ _ _ (below_drew HB1.out) HO1.out.drew).mono ?_
      rintro e w5 ⟨A5, n5, rfl, ho5, hb5, hk5⟩
      refine ⟨_, rfl, hK.out _ _ hb5 (fun hH2 => ?_)⟩
      clear hK K
      refine one_ (i := 3) (N := some 80) #[true, true, true, true, false, true, true, true, false, false] rfl rfl (by kernel_rfl) (by decide) (fun K hK => ?_)
      refine step_build (by rfl) _ 44 5 (by rfl) (.int .u8 58) (by rfl) (by kernel_rfl) ?_
      refine hK.out _ _ (below_then hb5 hb5.size (below_alloc (Below.refl _ w5) _)) (fun hH3 => ?_)
      refine norm_ ?_ (HJ.out (A5, n5, w5.heap.size) _ ⟨Lib.hid (ho5.alloc _), Lib.hid (below_then hb5 hb5.size (below_alloc (Below.refl _ w5) _)), Lib.hid ((show Lib.OthersKept 5 none wr w5 from kept_others (w := wr.drew) HO1.out.drew hk5).alloc _), Lib.hid (blk_cell (heap_alloc_new w5 _) 0)⟩)
      show Act.put (Act.put _ (some 79) _) (some 80) _ = _
      simp only [putAll, Act.put, List.setIfInBounds_toArray, List.set_cons_zero, List.set_cons_succ]
     ·refine step_build (by rfl) _ 44 5 (by rfl) (.int .u8 58) (by rfl) (by kernel_rfl) ?_
      have HB9 := Lib.hid (below_then (below_drew HB1.out) (below_drew HB1.out).size (below_alloc (Below.refl _ wr.drew) (.cells #[.int .u8 58] 5)))
      have HO9 := Lib.hid (HO1.out.drew.alloc (.cells #[.int .u8 58] 5))
      refine hK.out _ _ HB9.out (fun hH2 => ?_)
      clear hK K
      refine one_ (i := 2) (N := some 79) #[true, true, true, true, false, true, true, true, false, false] rfl rfl (by kernel_rfl) (by decide) (fun K hK => ?_)
      refine goes_ Tryz.func110 (by kernel_rfl) rfl #[.slice A1 b.length c1, .string ky] (by rfl) rfl rfl (by (try simp only [List.map_toArray, List.map_cons, List.map_nil]); rfl) ?_
      refine (HQ.out _ _ _ HB9.out HO9.out).mono ?_
      rintro e w5 ⟨A5, n5, rfl, ho5, hb5, hk5⟩
      refine ⟨_, rfl, hK.out _ _ hb5 (fun hH3 => ?_)⟩
      have hcell9 : w5.cell? ⟨wr.heap.size, 0, none⟩ = some (.int .u8 58) := blk_cell ((hk5 wr.heap.size (by rw [World.size_alloc]; exact Nat.lt_succ_self _) (fun e => Nat.lt_irrefl _ (own_lt HO1.out _ e.symm))).trans (heap_alloc_new wr.drew (.cells #[.int .u8 58] 5))) 0
      refine norm_ ?_ (HJ.out (A5, n5, wr.heap.size) _ ⟨Lib.hid ho5, Lib.hid hb5, Lib.hid (((Lib.OthersKept.refl 5 none wr).drew.alloc _).trans (kept_others HO9.out hk5)), Lib.hid hcell9⟩)
      show Act.put (Act.put _ (some 80) _) (some 79) _ = _
      simp only [putAll, Act.put, List.setIfInBounds_toArray, List.set_cons_zero, List.set_cons_succ]
      rfl
    rintro ⟨A5, n5, gn⟩ w5 ⟨HO5, HBL5, HT5, HC5⟩
    have hH9 := HBL5.out
    clear hH
    have hH := hH9
    clear hH9
    refine norm_ (a' := ?_) ?_ ?_
    rotate_left
    ·simp only [putAll, Act.put, List.setIfInBounds_toArray, List.set_cons_zero, List.set_cons_succ]
     rfl
    refine one_ (i := 4) (N := some 81) #[true, true, true, true, true, true, true, true, false, false] rfl rfl (by kernel_rfl) (by decide) (fun K hK => ?_)
    refine step_append_row w0.heap.size (by rfl) (.tmp 79) (.tmp 80) 44 5 (by rfl) Tryz.underlying44 info5 (.slice A5 b5.length n5) b5 ⟨gn, 0, none⟩ 1 _ [58] rfl (by rfl) (by rfl) HO5.out (cell_one HC5.out) HBL5.out.size HL6.out ?_
    intro v6 w6 hown6 hg6
    rw [← HB6.out] at hown6
    obtain ⟨A6, n6, rfl⟩ := own_slice hown6
    have HO6 := Lib.hid hown6
    have HBL6 := Lib.hid (Below.grown HBL5.out hg6 HBL5.out.size (fun k hk => own_base HO5.out k hk))
    have HT6 := Lib.hid (HT5.out.trans (grown_others HO5.out hg6))
    clear hown6 hg6
    refine hK.out _ _ HBL6.out (fun hH2 => ?_)
    clear hK K hH
    have hH := hH2
    clear hH2
    refine norm_ (a' := ?_) ?_ ?_
    rotate_left
    ·show Act.put _ (some 81) _ = _
     simp only [Act.put, List.setIfInBounds_toArray, List.set_cons_zero, List.set_cons_succ]
     rfl
    refine one_ (i := 8) (N := some 85) #[true, true, true, true, true, true, true, true, true, false] rfl rfl (by kernel_rfl) (by decide) (fun K hK => ?_)
    refine goes_ Tryz.func62 (by kernel_rfl) rfl #[.slice A6 b6.length n6, .iface T' x'] (by rfl) rfl rfl (by (try simp only [List.map_toArray, List.map_cons, List.map_nil]); rfl) ?_
    refine (HCK.out _ _ _ HBL6.out HO6.out).mono ?_
    rintro e w7 ⟨A7, n7, rfl, ho7, hb7, ht7⟩
    have HO7 := Lib.hid ho7
    have HBL7 := Lib.hid hb7
    have HT7 := Lib.hid (HT6.out.trans ht7)
    clear ho7 hb7 ht7
    refine ⟨_, rfl, hK.out _ _ HBL7.out (fun hH2 => ?_)⟩
    clear hK K hH
    have hH := hH2
    clear hH2
    refine norm_ (a' := ?_) ?_ ?_
    rotate_left
    ·show Act.put _ (some 85) _ = _
     simp only [Act.put, List.setIfInBounds_toArray, List.set_cons_zero, List.set_cons_succ]
     rfl
    refine take_ (i := 9) (N := some 0) (v := .slice A7 b7.length n7) (a' := ?_) #[true, true, true, true, true, true, true, true, true, true] rfl rfl (by kernel_rfl) (fun _ _ _ h => h) (Or.inl ⟨by rfl, ?_⟩) hH ?_ ?_
    ·rintro w2 y0
     go_simp
    rotate_left
    ·simp only [Act.put, List.setIfInBounds_toArray, List.set_cons_zero, List.set_cons_succ]
     rfl
    refine done_ (by kernel_rfl) ?_
    have HT8 := Lib.hid (HT1.out.trans HT7.out)
    clear hx0
    go_wp2_with fail
    go_roundw
    case rel => exact ⟨k + 1, b7, by simp, Lib.hid (by have := HKN.out; omega), HB7, HO7, HBL7, HT8⟩
    case measure =>
     have h5 := HKN.out
     simp [intOf]
     omega
   ·rw [if_neg hk0] at hnx
    have d2 : decide ((0 : Int) < (k : Int)) = true := decide_eq_true (by omega)
    have d2n : decide (0 < k) = true := decide_eq_true (by omega)
    obtain ⟨b2, hb2⟩ : ∃ b2, b2 = b ++ [44] := ⟨_, rfl⟩
    obtain ⟨b5, hb5⟩ : ∃ b5, b5 = b2 ++ quo ky := ⟨_, rfl⟩
    obtain ⟨b6, hb6⟩ : ∃ b6, b6 = b5 ++ [58] := ⟨_, rfl⟩
    obtain ⟨b7, hb7⟩ : ∃ b7, b7 = b6 ++ cts tk := ⟨_, rfl⟩
    have hl2 : b2.length = b.length + 1 := by rw [hb2, List.length_append]; rfl
    have hl5 : b5.length = b2.length + (quo ky).length := by rw [hb5, List.length_append]
    have hl6 : b6.length = b5.length + 1 := by rw [hb6, List.length_append]; rfl
    have HBE2 := Lib.hid hb2
    have HLK := Lib.hid hlook
    have HQ := Lib.hid (fun (W : World) (A2 : Option Addr) (c2 : Nat) (hB : Below w0.heap.size w0 W) (ho : W.ownsRow w0.heap.size 5 1 (.slice A2 b2.length c2) b2.length (nums .u8 b2)) => quotedK w0 W hB _ b2 b5 ky ho (by omega) (by omega) hb5)
    have HCK := Lib.hid (fun (W : World) (A2 : Option Addr) (c2 : Nat) (hB : Below w0.heap.size w0 W) (ho : W.ownsRow w0.heap.size 5 1 (.slice A2 b6.length c2) b6.length (nums .u8 b6)) => child hwk hB hvk HP.out ho (by omega) hb7)
    have HB7 := Lib.hid (show b7 = acc ++ 123 :: (jn (cs.take (k + 1))).drop 1 by rw [hb7, hb6, hb5, hb2, HBE.out, hnx]; simp)
    have HB6 := Lib.hid hb6
    have HL2 := Lib.hid (show b.length + 1 ≤ 140737488355328 by omega)
    have HL6 := Lib.hid (show b5.length + ([58] : List Int).length ≤ 140737488355328 by simp; omega)
    clear hb7 hb6 hb5 hb2 hnx hlk hjk hbl hl2 hl5 hl6 hcell hvk hbg hk0 hkn hlook hwk hkz
    go_wp2_with (first | (at_builtin; refine wp_append_byte rfl w0.heap.size (.tmp 74) (.tmp 75) 44 5 rfl Tryz.underlying44 info5 (.slice A1 b.length c1) b 44 rfl rfl HO1.out HB1.out.size HL2.out ?_; intro v3 w3 hown3 hg3; rw [← HBE2.out] at hown3; obtain ⟨A2, c2, rfl⟩ := own_slice hown3; have HO2 := Lib.hid hown3; have HBL2 := Lib.hid (Below.grown HB1.out hg3 HB1.out.size (fun k hk => own_base HO1.out k hk)); have HT3 := Lib.hid (HT1.out.trans (grown_others HO1.out hg3)); clear hown3 hg3))
    refine start_ (n := 10) (S := fun w' => Below w0.heap.size w0 w') (ds := []) #[false, false, false, false, false, false, false, false, false, false] (by kernel_rfl) rfl rfl (below_drew HBL2.out) (fun hH => ?_)
    refine take_ (i := 0) (N := some 77) (v := .slice A2 b2.length c2) (a' := ?_) #[true, false, false, false, false, false, false, false, false, false] rfl rfl (by kernel_rfl) (fun _ _ _ h => h) (Or.inl ⟨by rfl, ?_⟩) hH ?_ ?_
    ·rintro w2 y0
     go_simp
    rotate_left
    ·simp only [Act.put, List.setIfInBounds_toArray, List.set_cons_zero, List.set_cons_succ]
     rfl
    refine take_ (i := 1) (N := some 78) (v := .string ky) (a' := ?_) #[true, true, false, false, false, false, false, false, false, false] rfl rfl (by kernel_rfl) (fun _ _ _ h => h) (Or.inl ⟨by rfl, ?_⟩) hH ?_ ?_
    ·rintro w2 y0
     go_simp
    rotate_left
    ·simp only [Act.put, List.setIfInBounds_toArray, List.set_cons_zero, List.set_cons_succ]
     rfl
    refine take_ (i := 5) (N := some 82) (v := .map (some g)) (a' := ?_) #[true, true, false, false, false, true, false, false, false, false] rfl rfl (by kernel_rfl) (fun _ _ _ h => h) (Or.inl ⟨by rfl, ?_⟩) hH ?_ ?_
    ·rintro w2 y0
     go_simp
    rotate_left
    ·simp only [Act.put, List.setIfInBounds_toArray, List.set_cons_zero, List.set_cons_succ]
     rfl
    refine take_ (i := 6) (N := some 83) (v := .string ky) (a' := ?_) #[true, true, false, false, false, true, true, false, false, false] rfl rfl (by kernel_rfl) (fun _ _ _ h => h) (Or.inl ⟨by rfl, ?_⟩) hH ?_ ?_
    ·rintro w2 y0
     go_simp
    rotate_left
    ·simp only [Act.put, List.setIfInBounds_toArray, List.set_cons_zero, List.set_cons_succ]
     rfl
    refine take_ (i := 7) (N := some 84) (v := .iface T' x') (a' := ?_) #[true, true, false, false, false, true, true, true, false, false] rfl rfl (by kernel_rfl) (fun _ _ _ h => h) (Or.inl ⟨by rfl, ?_⟩) hH ?_ ?_
    ·rintro w2 y0
     have hlook := HLK.out w2 y0
     go_simp
    rotate_left
    ·simp only [Act.put, List.setIfInBounds_toArray, List.set_cons_zero, List.set_cons_succ]
     rfl
    refine join_ (σ := Option Addr × Nat × Nat) 3 #[true, true, true, true, false, true, true, true, false, false] (fun s => [(79, .slice s.1 b5.length s.2.1), (80, .slice (some ⟨s.2.2, 0, none⟩) 1 1)]) (fun s w' => Hid (w'.ownsRow w0.heap.size 5 1 (.slice s.1 b5.length s.2.1) b5.length (nums .u8 b5)) ∧ Hid (Below w0.heap.size w0 w') ∧ Hid (Lib.OthersKept 5 none w3 w') ∧ Hid (w'.cell? ⟨s.2.2, 0, none⟩ = some (.int .u8 58))) ?_ (fun hJ => ?_)
    rotate_left
    ·have HJ := Lib.hid hJ
     clear hJ
     refine two_ (i := 2) (j := 3) (Ni := some 79) (Nj := some 80) #[true, true, true, false, false, true, true, true, false, false] #[true, true, false, true, false, true, true, true, false, false] rfl rfl rfl rfl (by kernel_rfl) (by decide) (by decide) (fun K hK => ?_) (fun K hK => ?_)
     ·refine goes_ Tryz.func110 (by kernel_rfl) rfl #[.slice A2 b2.length c2, .string ky] (by rfl) rfl rfl (by (try simp only [List.map_toArray, List.map_cons, List.map_nil]); rfl) ?_
      refine (HQ.out _ _ _ (below_drew HBL2.out) HO2.out.drew).mono ?_
      rintro e w5 ⟨A5, n5, rfl, ho5, hb5, hk5⟩
      refine ⟨_, rfl, hK.out _ _ hb5 (fun hH2 => ?_)⟩
      clear hK K
      refine one_ (i := 3) (N := some 80) #[true, true, true, true, false, true, true, true, false, false] rfl rfl (by kernel_rfl) (by decide) (fun K hK => ?_)
      refine step_build (by rfl) _ 44 5 (by rfl) (.int .u8 58) (by rfl) (by kernel_rfl) ?_
      refine hK.out _ _ (below_then hb5 hb5.size (below_alloc (Below.refl _ w5) _)) (fun hH3 => ?_)
      refine norm_ ?_ (HJ.out (A5, n5, w5.heap.size) _ ⟨Lib.hid (ho5.alloc _), Lib.hid (below_then hb5 hb5.size (below_alloc (Below.refl _ w5) _)), Lib.hid ((show Lib.OthersKept 5 none w3 w5 from kept_others (w := w3.drew) HO2.out.drew hk5).alloc _), Lib.hid (blk_cell (heap_alloc_new w5 _) 0)⟩)
      show Act.put (Act.put _ (some 79) _) (some 80) _ = _
      simp only [putAll, Act.put, List.setIfInBounds_toArray, List.set_cons_zero, List.set_cons_succ]
     ·refine step_build (by rfl) _ 44 5 (by rfl) (.int .u8 58) (by rfl) (by kernel_rfl) ?_
      have HB9 := Lib.hid (below_then (below_drew HBL2.out) (below_drew HBL2.out).size (below_alloc (Below.refl _ w3.drew) (.cells #[.int .u8 58] 5)))
      have HO9 := Lib.hid (HO2.out.drew.alloc (.cells #[.int .u8 58] 5))
      refine hK.out _ _ HB9.out (fun hH2 => ?_)
      clear hK K
      refine one_ (i := 2) (N := some 79) #[true, true, true, true, false, true, true, true, false, false] rfl rfl (by kernel_rfl) (by decide) (fun K hK => ?_)
      refine goes_ Tryz.func110 (by kernel_rfl) rfl #[.slice A2 b2.length c2, .string ky] (by rfl) rfl rfl (by (try simp only [List.map_toArray, List.map_cons, List.map_nil]); rfl) ?_
      refine (HQ.out _ _ _ HB9.out HO9.out).mono ?_
      rintro e w5 ⟨A5, n5, rfl, ho5, hb5, hk5⟩
      refine ⟨_, rfl, hK.out _ _ hb5 (fun hH3 => ?_)⟩
      have hcell9 : w5.cell? ⟨w3.heap.size, 0, none⟩ = some (.int .u8 58) := blk_cell ((hk5 w3.heap.size (by rw [World.size_alloc]; exact Nat.lt_succ_self _) (fun e => Nat.lt_irrefl _ (own_lt HO2.out _ e.symm))).trans (heap_alloc_new w3.drew (.cells #[.int .u8 58] 5))) 0
      refine norm_ ?_ (HJ.out (A5, n5, w3.heap.size) _ ⟨Lib.hid ho5, Lib.hid hb5, Lib.hid (((Lib.OthersKept.refl 5 none w3).drew.alloc _).trans (kept_others HO9.out hk5)), Lib.hid hcell9⟩)
      show Act.put (Act.put _ (some 80) _) (some 79) _ = _
      simp only [putAll, Act.put, List.setIfInBounds_toArray, List.set_cons_zero, List.set_cons_succ]
      rfl
    rintro ⟨A5, n5, gn⟩ w5 ⟨HO5, HBL5, HT5, HC5⟩
    have hH9 := HBL5.out
    clear hH
    have hH := hH9
    clear hH9
    refine norm_ (a' := ?_) ?_ ?_
    rotate_left
    ·simp only [putAll, Act.put, List.setIfInBounds_toArray, List.set_cons_zero, List.set_cons_succ]
     rfl
    refine one_ (i := 4) (N := some 81) #[true, true, true, true, true, true, true, true, false, false] rfl rfl (by kernel_rfl) (by decide) (fun K hK => ?_)
    refine step_append_row w0.heap.size (by rfl) (.tmp 79) (.tmp 80) 44 5 (by rfl) Tryz.underlying44 info5 (.slice A5 b5.length n5) b5 ⟨gn, 0, none⟩ 1 _ [58] rfl (by rfl) (by rfl) HO5.out (cell_one HC5.out) HBL5.out.size HL6.out ?_
    intro v6 w6 hown6 hg6
    rw [← HB6.out] at hown6
    obtain ⟨A6, n6, rfl⟩ := own_slice hown6
    have HO6 := Lib.hid hown6
    have HBL6 := Lib.hid (Below.grown HBL5.out hg6 HBL5.out.size (fun k hk => own_base HO5.out k hk))
    have HT6 := Lib.hid (HT5.out.trans (grown_others HO5.out hg6))
    clear hown6 hg6
    refine hK.out _ _ HBL6.out (fun hH2 => ?_)
    clear hK K hH
    have hH := hH2
    clear hH2
    refine norm_ (a' := ?_) ?_ ?_
    rotate_left
    ·show Act.put _ (some 81) _ = _
     simp only [Act.put, List.setIfInBounds_toArray, List.set_cons_zero, List.set_cons_succ]
     rfl
    refine one_ (i := 8) (N := some 85) #[true, true, true, true, true, true, true, true, true, false] rfl rfl (by kernel_rfl) (by decide) (fun K hK => ?_)
    refine goes_ Tryz.func62 (by kernel_rfl) rfl #[.slice A6 b6.length n6, .iface T' x'] (by rfl) rfl rfl (by (try simp only [List.map_toArray, List.map_cons, List.map_nil]); rfl) ?_
    refine (HCK.out _ _ _ HBL6.out HO6.out).mono ?_
    rintro e w7 ⟨A7, n7, rfl, ho7, hb7, ht7⟩
    have HO7 := Lib.hid ho7
    have HBL7 := Lib.hid hb7
    have HT7 := Lib.hid (HT6.out.trans ht7)
    clear ho7 hb7 ht7
    refine ⟨_, rfl, hK.out _ _ HBL7.out (fun hH2 => ?_)⟩
    clear hK K hH
    have hH := hH2
    clear hH2
    refine norm_ (a' := ?_) ?_ ?_
    rotate_left
    ·show Act.put _ (some 85) _ = _
     simp only [Act.put, List.setIfInBounds_toArray, List.set_cons_zero, List.set_cons_succ]
     rfl
    refine take_ (i := 9) (N := some 0) (v := .slice A7 b7.length n7) (a' := ?_) #[true, true, true, true, true, true, true, true, true, true] rfl rfl (by kernel_rfl) (fun _ _ _ h => h) (Or.inl ⟨by rfl, ?_⟩) hH ?_ ?_
    ·rintro w2 y0
     go_simp
    rotate_left
    ·simp only [Act.put, List.setIfInBounds_toArray, List.set_cons_zero, List.set_cons_succ]
     rfl
    refine done_ (by kernel_rfl) ?_
    have HT8 := Lib.hid (HT3.out.trans HT7.out)
    clear hx0
    go_wp2_with fail
    go_roundw
    case rel => exact ⟨k + 1, b7, by simp, Lib.hid (by have := HKN.out; omega), HB7, HO7, HBL7, HT8⟩
    case measure =>
     have h5 := HKN.out
     simp [intOf]
     omega
  ·have d1 : decide ((k : Int) < (l.length : Int)) = false := decide_eq_false (by omega)
   have d1n : decide (k < l.length) = false := decide_eq_false hkn
   have hke : k = l.length := by have := HKL.out; omega
   have hbe := HBE.out
   rw [show cs.take k = cs by rw [hke, ← HJZ.out.2, List.take_length]] at hbe
   have hfin : a3 = b ++ [125] := by rw [HA.out, hbe]; simp
   have HF := Lib.hid hfin
   have HL2 := Lib.hid (show b.length + 1 ≤ 140737488355328 by
    have h1 := HLC.out
    rw [hbe, List.length_append, List.length_cons]
    rw [List.length_cons, List.length_append] at h1
    omega)
   clear hfin hbe hke hkn
   go_wp2_with (first | (at_builtin; refine wp_append_byte rfl w0.heap.size (.tmp 87) (.tmp 88) 44 5 rfl Tryz.underlying44 info5 (.slice A1 b.length c1) b 125 rfl rfl HO1.out HB1.out.size HL2.out ?_; intro v3 w3 hown3 hg3; rw [← HF.out] at hown3; obtain ⟨A2, c2, rfl⟩ := own_slice hown3; have HW := Lib.hid (wq_trans (HT2.out.trans HT1.out) (wq_grown HB1.out HO1.out HF.out hown3 hg3)); clear hown3 hg3))
   go_wp2_with fail
   go_ret
   exact HW.out
theorem write_all : ∀ (n : Nat) (t : T), (cts t).length ≤ n → WF t → (cts t).length ≤ 1000000 → WriteOf t := by
 intro n
 induction n with
 | zero => intro t h hw _; have := cts_pos t hw; omega
 | succ n ih =>
  intro t h hw hz
  have hkid : ∀ p ∈ kids t, WriteOf p := fun p hp => by
   have h1 := kid_lt t p hp hw
   exact ih p (by omega) h1.2 (by omega)
  cases t with
  | nul => exact write_nul
  | tru => exact write_bool true _ rfl
  | fls => exact write_bool false _ rfl
  | num x => exact write_num x
  | str b =>
   have h1 := quo_ge b
   have h2 : cts (.str b) = quo b := by rw [cts]
   rw [h2] at hz
   exact write_str b (by omega)
  | arr l => exact write_arr l hkid
  | obj l =>
   rw [WF] at hw
   have h2 : (cts (.obj l)).length = 1 + (((ctsM l).drop 1).length + 1) := by rw [cts]; simp; omega
   rw [List.length_drop] at h2
   exact write_obj l hw.2 (by omega) (fun p hp => hkid p.2 (List.mem_map.2 ⟨p, hp, rfl⟩))
end Go.Proofs.YtndagnkhjlgjgaaGreatDoor.Impl
