/- The reader of JSON: the contract by hand of str. -/
import Derived.Test.YtndagnkhjlgjgaaGreatDoorRead3
import Derived.Lib.AppendStr
namespace Go.Proofs.YtndagnkhjlgjgaaGreatDoor.Read
open Go Go.RowKit YtndagnkhjlgjgaaGreatDoorW.PrintWords Str Tchs
set_option linter.unusedVariables false
set_option linter.unusedSimpArgs false
section
variable {P : Program} {ops : Array Oper} {o : Oper} {a : Act} {Q : Exit → Act → World → Prop} {Kc : Act → World → Prop}
theorem step_append_text {W : World} (base : Nat) (hw : Region.wanted o (yielded ops a.tmps) = true) (s x : Operand) (t u e : TypeId)
  (ho : o.op = .call { callee := .builtin .append, args := #[s, x], argTypes := #[t, u] })
  (ht : P.underlying t = some (.slice e)) (hu : P.underlying u = some .string) (hinfo : (P.info? e).map (fun i => (i.zero, i.size, i.bytes)) = some (some (.int .u8 0), 1, 1))
  (v : Value) (xs : List Int) (y : ByteArray) (hs : a.eval s = v) (hx : a.eval x = .string y)
  (HO : W.ownsRow base e 1 v xs.length (nums .u8 xs)) (hbase : base ≤ W.heap.size) (hl : xs.length + y.size ≤ 140737488355328)
  (h : ∀ v1 w1, w1.ownsRow base e 1 v1 (xs ++ bytesOf y).length (nums .u8 (xs ++ bytesOf y)) → W.grownBy w1 v.ownBlock → Kc (a.put o.dst v1) w1) :
  if Region.wanted o (yielded ops a.tmps) = true then Oper.wp P o a W Kc Q else Kc (a.put o.dst undef) W := by
 obtain ⟨i0, hi, hzz⟩ := Option.map_eq_some_iff.1 hinfo
 simp only [Prod.mk.injEq] at hzz
 obtain ⟨hz0, hz1, hz2⟩ := hzz
 rw [if_pos hw]
 obtain ⟨v1, w1, hr, h2, h3, h4⟩ := Lib.run_append_own_string (P := P) W base t u o.type e i0 ht hu hi hz0 hz1 hz2 v xs.length (nums .u8 xs) HO y (by simp only [maxLen]; omega) hl hbase
 unfold Oper.wp execOp
 simp only [ho, resolve, invoke, builtin, Sem.run_bind, Sem.run_pure, Result.andThen_ok, List.map_toArray, List.map_cons, List.map_nil, hs, hx, hr]
 have hl2 : (xs ++ bytesOf y).length = xs.length + y.size := by rw [List.length_append, bytesOf_length]
 have hc : nums .u8 (xs ++ bytesOf y) = nums .u8 xs ++ Lib.strCells y := by
  rw [nums_append]
  congr 1
  simp [nums, bytesOf, Lib.strCells]
 exact h v1 w1 (by rw [hl2, hc]; exact h2) h3
end
theorem pre_q (s : ByteArray) (q : Nat) : pre s q ⟨#[34]⟩ = true ↔ (q < s.size ∧ bt s (q : Int) = 34) := by
 have hl : (List.take (s.size - q) (List.drop q s.data.toList)) = List.drop q s.data.toList := List.take_of_length_le (by rw [List.length_drop, Array.length_toList]; exact Nat.le_refl _)
 have hn : (List.drop q s.data.toList).length = s.size - q := by rw [List.length_drop, Array.length_toList]; rfl
 have b0 := bt_getD s q
 have g0 : (List.drop q s.data.toList).getD 0 0 = s.data.toList.getD q 0 := by simp [List.getD_eq_getElem?_getD]
 rw [← g0] at b0
 unfold pre
 rw [hl, b0]
 generalize List.drop q s.data.toList = l at hn
 show Lib.hasPrefix l [34] = true ↔ _
 have e34 : ∀ a : UInt8, ((a.toNat : Int) = 34) ↔ (34 : UInt8) = a := fun a => by
  rw [eq_comm (a := (34 : UInt8)), ← UInt8.toNat_inj]
  show _ ↔ a.toNat = 34
  omega
 match l, hn with
 | [], hn => simp only [List.length_nil] at hn; simp [Lib.hasPrefix] <;> omega
 | a :: l, hn =>
  simp only [List.length_cons] at hn
  have hq : q < s.size := by omega
  simp [Lib.hasPrefix, hq, List.getD, e34]
theorem nb_cut (s : ByteArray) (q i : Nat) (hq : q ≤ s.size) : nb (s.extract q s.size) i = nb s (q + i) := by
 have h1 := nb_bt (s.extract q s.size) i
 have h2 := nb_bt s (q + i)
 rw [bt_getD] at h1 h2
 have e : (s.extract q s.size).data.toList = s.data.toList.drop q := by
  simp
  exact List.take_of_length_le (by rw [List.length_drop, Array.length_toList]; exact Nat.le_refl _)
 rw [e] at h1
 have e2 : (List.drop q s.data.toList).getD i 0 = s.data.toList.getD (q + i) 0 := by simp [List.getD_eq_getElem?_getD]
 rw [e2] at h1
 omega
theorem decode_cut (s : ByteArray) (q : Nat) (hq : q < s.size) : Lib.decodeGo (s.extract q s.size) = Utf8.decode s q := by
 have hz : (s.extract q s.size).size = s.size - q := by simp
 unfold Lib.decodeGo
 rw [if_neg (by omega), dec_eq, dec_eq, nb_cut s q _ (by omega), nb_cut s q _ (by omega), nb_cut s q _ (by omega), nb_cut s q _ (by omega), hz]
 rfl
theorem bytes_cut (s : ByteArray) (q n : Nat) (h : q + n ≤ s.size) : bytesOf (s.extract q (q + n)) = btsL s (q : Int) n := by
 have e : (s.extract q (q + n)).data.toList = (s.data.toList.drop q).take n := by simp
 unfold bytesOf
 rw [e, cut_list s n q h, List.map_map]
 have hr := btsL_range s n (q : Int)
 generalize btsL s (q : Int) n = l at hr
 conv => rhs; rw [← List.map_id l]
 refine List.map_congr_left fun x hx => ?_
 have := hr x hx
 simp only [Function.comp]
 show ((UInt8.ofNat x.toNat).toNat : Int) = x
 rw [UInt8.toNat_ofNat']
 omega
theorem Rdr.grown {w w1 : World} {g : Nat} {s : ByteArray} {p : Nat} {rg tw : Bool} {row : Option Nat} (h : Rdr w g s p rg tw) (hg : w.grownBy w1 row) (hne : ∀ k, row = some k → k ≠ g) : Rdr w1 g s p rg tw := blk_grown h hg (fun e => hne g e.symm rfl)
theorem tabs_tch {w w1 : World} {S : Nat → Prop} {a b : Nat} (h : Lib.Utf8Tabs a b w) (ht : Tch w w1 S) (ha : ¬ S a) (hb : ¬ S b) : Lib.Utf8Tabs a b w1 := by
 have la : a < w.heap.size := World.block_lt_of_cell? w _ (h.1 0 (by decide))
 have lb : b < w.heap.size := World.block_lt_of_cell? w _ (h.2 0 (by decide)).1
 have ea := ht.kept.2 a la ha
 have eb := ht.kept.2 b lb hb
 refine ⟨fun c hc => ?_, fun i hi => ⟨?_, ?_⟩⟩
 ·rw [← h.1 c hc]; simp only [World.cell?, ea]
 ·rw [← (h.2 i hi).1]; simp only [World.cell?, eb]
 ·rw [← (h.2 i hi).2]; simp only [World.cell?, eb]
theorem badR_is (s : ByteArray) (q : Nat) : badR s q = true ↔ ((Utf8.decode s q).1 = 65533 ∧ (Utf8.decode s q).2 < 2) := by unfold badR; simp
theorem dec_le (s : ByteArray) (q : Nat) : (Utf8.decode s q).1 ≤ 1114111 := by
 rw [dec_eq]
 unfold decN
 repeat' split
 all_goals simp only []
 all_goals omega
theorem _root_.Go.RowKit.Below.size' {w w1 : World} {B : Nat} (h : Below B w w1) : w.heap.size ≤ w1.heap.size := h.size
def posOf (w : World) (g : Nat) : Nat := match w.cell? ⟨g, 1, none⟩ with | some (.int _ a) => a.toNat | _ => 0
theorem posOf_at {w : World} {g : Nat} {s : ByteArray} {p : Nat} {rg tw : Bool} (h : Rdr w g s p rg tw) : posOf w g = p := by
 unfold posOf
 rw [h.at_.2.1]
 simp
set_option maxRecDepth 100000 in
set_option maxHeartbeats 8000000 in
theorem str (g : Nat) (s : ByteArray) (p : Nat) (rg tw : Bool) (w : World) (h : Rdr w g s p rg tw) (hp : p ≤ s.size) (hs : s.size ≤ 1048576) (hT : Lib.Utf8Tabs 1 2 w) (hg : 2 < g) :
  Calls Tryz.prog 129 #[.pointer (some ⟨g, 0, none⟩)] w fun e w' => (∀ b q, strF s p = some (b, q) → e = .returned (.string (strOfNums b)) ∧ Rdr w' g s q rg tw) ∧ (strF s p = none → e = .panicked noForm ∧ ∃ q, Rdr w' g s q rg tw) ∧ Tch w w' (fun k => k = g) := by
 have H := Lib.hid h
 have HTB := Lib.hid hT
 have hgl := h.lt
 have HGL := Lib.hid hgl
 clear h hT hgl
 go_enter Tryz.func129, Tryz.ntmps129
 go_wp2_with fail
 cases hw : pre s p ⟨#[34]⟩ with
 | false =>
  refine (want_no g s p rg tw ⟨#[34]⟩ _ H.out hp hs hw).mono ?_
  rintro e w1 ⟨rfl, hb1⟩
  have hE : strF s p = none := by
   unfold strF
   rw [if_neg (fun h => by have h2 := (pre_q s p).2 h; rw [hw] at h2; cases h2)]
  go_wp2_with fail
  rw [hE]
  exact ⟨rfl, fun b q h => (by cases h), fun _ => ⟨rfl, p, Rdr.below H.out hb1⟩, Tch.of_below hb1 _⟩
 | true =>
  refine (want_ok g s p rg tw ⟨#[34]⟩ _ H.out hp hs hw (by decide)).mono ?_
  rintro e w1 ⟨rfl, hR1, ht1⟩
  have hpq := (pre_q s p).1 hw
  have HE := Lib.hid (show strF s p = strL s (s.size - p) (p + 1) by unfold strF; rw [if_pos hpq])
  have hz1 := ht1.kept.1
  have HR := Lib.hid (show Rdr (w1.alloc (.cells #[] 5)) g s (p + 1) rg tw from Rdr.below hR1 (below_alloc (Below.refl _ _) _))
  have HT := Lib.hid (Tch.alloc ht1 (.cells #[] 5))
  have HO := Lib.hid (show (w1.alloc (.cells #[] 5)).ownsRow w1.heap.size 5 1 (.slice (some ⟨w1.heap.size, 0, none⟩) 0 0) ([] : List Int).length (nums .u8 []) from ⟨rfl, .inr ⟨w1.heap.size, 0, #[], rfl, Nat.le_refl _, heap_alloc_new w1 _, Nat.le_refl _, by decide, rfl, rfl⟩⟩)
  have HSZ := Lib.hid (show w1.heap.size ≤ (w1.alloc (.cells #[] 5)).heap.size by rw [World.size_alloc]; omega)
  have HZ1 := Lib.hid hz1
  obtain ⟨hpl, _⟩ := hpq
  clear hR1 ht1 hw hz1
  go_wp2_with fail
  generalize w1.alloc (.cells #[] 5) = wL at HR HT HO HSZ ⊢
  obtain ⟨B, hB⟩ : ∃ B, B = w1.heap.size := ⟨_, rfl⟩
  rw [← hB] at HO HSZ HZ1 ⊢
  clear hB
  go_loopw [3] (fun v3 wr => ∃ (acc : List Int) (q d : Nat), Hid (wr.ownsRow B 5 1 v3 acc.length (nums .u8 acc)) ∧ Hid (Rdr wr g s q rg tw) ∧ Hid (p < q ∧ q ≤ s.size ∧ s.size < q + d ∧ acc.length ≤ 4 * q) ∧ Hid (strF s p = (strL s d q).map fun r => (acc ++ r.1, r.2)) ∧ Hid (Tch w wr (fun k => k = g)) ∧ Hid (B ≤ wr.heap.size)) (fun _ wr => s.size + 1 - posOf wr g)
  case atStart => exact ⟨[], p + 1, s.size - p, HO, HR, Lib.hid ⟨by omega, by omega, by omega, by simp⟩, Lib.hid (by rw [HE.out]; cases strL s (s.size - p) (p + 1) <;> simp), HT, HSZ⟩
  case round =>
   clear HO HR HT HSZ HE H
   obtain ⟨acc, q, d, HO, HR, HI, HE, HT, HSZ⟩ := hrel
   have hgB : g < B := Nat.lt_of_lt_of_le HGL.out HZ1.out
   have HGB := Lib.hid hgB
   clear hgB
   obtain ⟨A, n, rfl⟩ := own_slice HO.out
   obtain ⟨hpq, hq, hd, hacc⟩ := HI.out
   have hpos := posOf_at HR.out
   cases d with
   | zero => omega
   | succ d =>
   rw [strL] at HE
   go_wp2_with fail
   by_cases hqs : q < s.size
   ·rw [if_pos hqs] at HE
    refine (peek_ok g s q rg tw _ HR.out hqs hs).mono ?_
    rintro e w2 ⟨rfl, hb2⟩
    have HR2 := Lib.hid (Rdr.below HR.out hb2)
    have HT2 := Lib.hid (Tch.below HT.out hb2)
    have HO2 := Lib.hid (own_tch HO.out (Tch.of_below hb2 (fun _ => False)) (fun _ _ h => h))
    have hz2 : B ≤ w2.heap.size := Nat.le_trans HSZ.out hb2.size
    obtain ⟨h0, h1, hf⟩ := HR2.out.at_
    have hc0 := (bt_range s (q : Int)).1
    have hc1 := (bt_range s (q : Int)).2
    have HR3 := Lib.hid (Rdr.set HR2.out ((q : Int) + 1) (q + 1) (by simp))
    have HT3 := Lib.hid (Tch.setCell HT2.out (p := ⟨g, 1, none⟩) (.inl rfl) (.int .i64 ((q : Int) + 1)))
    have HO3 := Lib.hid (own_tch HO2.out (Tch.setCell (Tch.refl w2 (fun k => k = g)) (p := ⟨g, 1, none⟩) (.inl rfl) (.int .i64 ((q : Int) + 1))) (fun k hk => by have := HGB.out; omega))
    have hz3 : B ≤ (w2.setCell ⟨g, 1, none⟩ (.int .i64 ((q : Int) + 1))).heap.size := Nat.le_trans hz2 (Tch.setCell (Tch.refl w2 (fun k => k = g)) (p := ⟨g, 1, none⟩) (.inl rfl) (.int .i64 ((q : Int) + 1))).kept.1
    by_cases c34 : bt s (q : Int) = 34
    ·have e34 : (bt s (q : Int) == 34) = true := by rw [c34]; rfl
     rw [if_pos c34] at HE
     have hcv := own_string (P := Tryz.prog) Tryz.underlying44 Tryz.underlying5 Tryz.underlying9 HO3.out
     go_wp2_with fail
     go_ret
     have hE : strF s p = some (acc ++ [], q + 1) := HE.out
     rw [hE, List.append_nil]
     refine ⟨fun b q' h => ?_, (fun h => by cases h), HT3.out⟩
     injection h with h
     injection h with ha hb
     subst ha; subst hb
     exact ⟨rfl, HR3.out⟩
    ·have e34 : (bt s (q : Int) == 34) = false := by simpa using c34
     rw [if_neg c34] at HE
     by_cases c92 : bt s (q : Int) = 92
     ·have e92 : (bt s (q : Int) == 92) = true := by rw [c92]; rfl
      have hpc : pieceF s q = escF s (q + 1) := by unfold pieceF; exact if_pos c92
      rw [hpc] at HE
      go_wp2_with fail
      refine (escape g s (q + 1) rg tw (.slice A acc.length n) acc B _ HR3.out hs HO3.out (by omega) hz3 HGB.out).mono ?_
      rintro e w4 ⟨hok, hno, ht4⟩
      have HT4 := Lib.hid (HT3.out.then_ ht4 (fun k hk => by have := HZ1.out; omega))
      have HZ4 := Lib.hid (Nat.le_trans hz3 ht4.kept.1)
      cases hx : escF s (q + 1) with
      | none =>
       obtain ⟨rfl, q2, hR⟩ := hno hx
       rw [hx] at HE
       clear hok hno ht4
       go_wp2_with fail
       have hE : strF s p = none := HE.out
       rw [hE]
       exact ⟨rfl, fun b q h => (by cases h), fun _ => ⟨rfl, q2, hR⟩, HT4.out⟩
      | some bq =>
       obtain ⟨b, q2⟩ := bq
       obtain ⟨v', rfl, hown4, hR4⟩ := hok b q2 hx
       have HOW := Lib.hid hown4
       have HR4 := Lib.hid hR4
       have hle := escF_le hx
       rw [hx] at HE
       clear hok hno ht4 hown4 hR4
       go_wp2_with fail
       have hE : strF s p = ((strL s d q2).map fun r => (b ++ r.1, r.2)).map fun r => (acc ++ r.1, r.2) := HE.out
       refine ⟨⟨acc ++ b, q2, d, HOW, HR4, Lib.hid ⟨by omega, hle.2.1, by omega, by rw [List.length_append]; omega⟩, Lib.hid ?_, HT4, HZ4⟩, ?_⟩
       ·rw [hE]; cases strL s d q2 <;> simp [List.append_assoc]
       ·rw [posOf_at HR4.out, hpos]; omega
     ·have e92 : (bt s (q : Int) == 92) = false := by simpa using c92
      by_cases c32 : bt s (q : Int) < 32
      ·have e32 : decide (bt s (q : Int) < 32) = true := decide_eq_true c32
       have hpc : pieceF s q = none := by unfold pieceF; rw [if_neg c92, if_pos (.inl c32)]
       rw [hpc] at HE
       go_wp2_with fail
       have hE : strF s p = none := HE.out
       rw [hE]
       exact ⟨rfl, fun b q h => (by cases h), fun _ => ⟨rfl, q, HR2.out⟩, HT2.out⟩
      ·have e32 : decide (bt s (q : Int) < 32) = false := decide_eq_false c32
       by_cases c128 : bt s (q : Int) < 128
       ·have e128 : decide (bt s (q : Int) < 128) = true := decide_eq_true c128
        have hpc : pieceF s q = some ([bt s (q : Int)], q + 1) := by unfold pieceF; rw [if_neg c92, if_neg (by omega), if_pos c128]
        rw [hpc] at HE
        go_wp2_with (first | (at_builtin; refine print_append_num (w0 := w2) B rfl (.tmp 91) (.tmp 93) 44 5 .u8 1 rfl Tryz.underlying44 info5 (by decide) (.slice A acc.length n) acc _ rfl rfl HO2.out (Below.refl _ _) hz2 (by omega) ?_; intro v4 w4 hown4 hB4 hg4 _; have HR4 := Lib.hid (Rdr.belowB HR2.out hB4 HGB.out); obtain ⟨g0, g1, gf⟩ := HR4.out.at_))
        have hE : strF s p = ((strL s d (q + 1)).map fun r => ([bt s (q : Int)] ++ r.1, r.2)).map fun r => (acc ++ r.1, r.2) := HE.out
        have hR5 := Rdr.set HR4.out ((q : Int) + 1) (q + 1) (by simp)
        refine ⟨⟨acc ++ [bt s (q : Int)], q + 1, d, Lib.hid (own_tch hown4 (Tch.setCell (Tch.refl w4 (fun k => k = g)) (p := ⟨g, 1, none⟩) (.inl rfl) _) (fun k hk => by have := HGB.out; omega)), Lib.hid hR5, Lib.hid ⟨by omega, by omega, by omega, by rw [List.length_append]; simp; omega⟩, Lib.hid ?_, Lib.hid (Tch.setCell (HT2.out.then_ (Tch.of_belowB hB4) (fun k hk => .inr (Nat.le_trans HZ1.out hk))) (p := ⟨g, 1, none⟩) (.inl rfl) _), Lib.hid (Nat.le_trans (Nat.le_trans hz2 hB4.size') (Tch.setCell (Tch.refl w4 (fun k => k = g)) (p := ⟨g, 1, none⟩) (.inl rfl) _).kept.1)⟩, ?_⟩
        ·rw [hE]; cases strL s d (q + 1) <;> simp [List.append_assoc]
        ·rw [posOf_at hR5, hpos]; omega
       ·have e128 : decide (bt s (q : Int) < 128) = false := decide_eq_false c128
        have hdp := dec_pos s q hqs
        have hDec : ∀ w', Lib.Utf8Tabs 1 2 w' → Calls Tryz.prog 139 #[.string (s.extract q s.size)] w' fun e w'' => e = .returned (.tuple #[.int .i32 ((Utf8.decode s q).1 : Int), .int .i64 ((Utf8.decode s q).2 : Int)]) ∧ Below w'.heap.size w' w'' := fun w' hT => by
         have h := Tryz.utf8_DecodeRuneInString (s.extract q s.size) w' hT
         rw [decode_cut s q hqs] at h
         exact h
        have hbr := badR_is s q
        have HPC := Lib.hid (show pieceF s q = if badR s q = true then none else some (btsL s (q : Int) (Utf8.decode s q).2, q + (Utf8.decode s q).2) by unfold pieceF; rw [if_neg c92, if_neg (by omega), if_neg c128])
        have HCUT := Lib.hid (bytes_cut s q (Utf8.decode s q).2 hdp.2.1)
        have hri : ((Utf8.decode s q).1 : Int) ≤ 1114111 := by have := dec_le s q; omega
        generalize (Utf8.decode s q).1 = r at hDec hbr hri
        generalize (Utf8.decode s q).2 = k at hDec hbr HPC HCUT hdp
        have hb0 : (0 : Int) ≤ (q : Int) := by omega
        have hb1 : (q : Int) ≤ (s.size : Int) := by omega
        have hb2 : (s.size : Int) ≤ (s.size : Int) := by omega
        go_wp2_with fail
        go_region_held3 (fun w' => w'.cell? ⟨g, 0, none⟩ = some (.string s) ∧ w'.cell? ⟨g, 1, none⟩ = some (.int .i64 (q : Int))) (first | exact ⟨h0, h1⟩ | go_keep | exact ⟨HR5.out.at_.1, HR5.out.at_.2.1⟩) (first | (go_at_call 139; refine (hDec _ (tabs_tch HTB.out (Tch.drew HT2.out) (by omega) (by omega))).mono ?_; rintro e w5 ⟨rfl, hb5⟩; have HR5 := Lib.hid (Rdr.below (Rdr.drew HR2.out) hb5); have HT5 := Lib.hid (Tch.below (Tch.drew HT2.out) hb5); have HO5 := Lib.hid (own_tch HO2.out (Tch.of_below (below_then (below_drew (Below.refl w2.heap.size w2)) (Nat.le_refl _) hb5) (fun _ => False)) (fun _ _ h => h)); have hz5 := Nat.le_trans hz2 hb5.size; clear hb5))
        clear h0 h1 hf hDec hb2
        obtain ⟨g0, g1, gf⟩ := HR5.out.at_
        cases hbad : badR s q with
        | true =>
         obtain ⟨hr1, hk1⟩ := hbr.1 hbad
         have d1 : ((r : Int) == 65533) = true := by simp [hr1]
         have d2 : decide ((k : Int) < 2) = true := decide_eq_true (by omega)
         have hpc := HPC.out
         rw [if_pos hbad] at hpc
         rw [hpc] at HE
         clear hpc
         go_wp2_with fail
         have hE : strF s p = none := HE.out
         rw [hE]
         exact ⟨rfl, fun b q h => (by cases h), fun _ => ⟨rfl, q, HR5.out⟩, HT5.out⟩
        | false =>
         have hpc := HPC.out
         rw [if_neg (by rw [hbad]; simp)] at hpc
         rw [hpc] at HE
         clear hpc
         have hcut1 : (0 : Int) ≤ (q : Int) := by omega
         have hcut2 : (q : Int) ≤ (q : Int) + (k : Int) := by omega
         have hcut3 : (q : Int) + (k : Int) ≤ (s.size : Int) := by omega
         have hw5 : IntKind.i64.wrap ((q : Int) + (k : Int)) = (q : Int) + (k : Int) := by rw [IntKind.wrap_i64]; omega
         by_cases hr1 : r = 65533
         ·have d1 : ((r : Int) == 65533) = true := by simp [hr1]
          have d2 : decide ((k : Int) < 2) = false := decide_eq_false (fun h => by have h2 := hbr.2 ⟨hr1, by omega⟩; rw [hbad] at h2; cases h2)
          go_wp2_with fail
          go_region_held3 (fun w' => w'.cell? ⟨g, 0, none⟩ = some (.string s) ∧ w'.cell? ⟨g, 1, none⟩ = some (.int .i64 (q : Int))) (first | exact ⟨g0, g1⟩ | go_keep | exact ⟨HR6.out.at_.1, HR6.out.at_.2.1⟩) (first | (refine step_append_text B (by simp [Region.wanted]) (.tmp 33) (.tmp 48) 44 9 5 (by rfl) Tryz.underlying44 Tryz.underlying9 info5 (.slice A acc.length n) acc (s.extract q (q + k)) (by rfl) (by rfl) (own_tch HO5.out (Tch.drew (Tch.refl w5 (fun _ => False))) (fun _ _ h => h)) hz5 (by simp; omega) ?_; intro v6 w6 hown6 hg6; have HR6 := Lib.hid (Rdr.grown (Rdr.drew HR5.out) hg6 (fun k hk => by have h1 := own_base HO5.out k hk; have h2 := HGB.out; omega)); have HT6 := Lib.hid (Tch.grown (Tch.drew HT5.out) hg6 (fun k hk => .inr (by have h1 := own_base HO5.out k hk; have h2 := HZ1.out; omega))); have HOW := Lib.hid hown6; have hz6 := Nat.le_trans hz5 hg6.size; clear hown6 hg6))
          obtain ⟨j0, j1, jf⟩ := HR6.out.at_
          have hown6 := HOW.out
          rw [HCUT.out] at hown6
          have HOW6 := Lib.hid hown6
          clear hown6
          go_wp2_with fail
          have hE : strF s p = ((strL s d (q + k)).map fun r => (btsL s (q : Int) k ++ r.1, r.2)).map fun r => (acc ++ r.1, r.2) := HE.out
          have hR7 := Rdr.set HR6.out ((q : Int) + (k : Int)) (q + k) (by simp)
          refine ⟨⟨acc ++ btsL s (q : Int) k, q + k, d, Lib.hid (own_tch HOW6.out (Tch.setCell (Tch.refl w6 (fun k => k = g)) (p := ⟨g, 1, none⟩) (.inl rfl) _) (fun k hk => by have := HGB.out; omega)), Lib.hid hR7, Lib.hid ⟨by omega, by omega, by omega, by rw [List.length_append, btsL_len]; omega⟩, Lib.hid ?_, Lib.hid (Tch.setCell HT6.out (p := ⟨g, 1, none⟩) (.inl rfl) _), Lib.hid (Nat.le_trans hz6 (Tch.setCell (Tch.refl w6 (fun k => k = g)) (p := ⟨g, 1, none⟩) (.inl rfl) _).kept.1)⟩, ?_⟩
          ·rw [hE]; cases strL s d (q + k) <;> simp [List.append_assoc]
          ·rw [posOf_at hR7, hpos]; omega
         ·have d1 : ((r : Int) == 65533) = false := by simp; omega
          go_wp2_with fail
          go_region_held3 (fun w' => w'.cell? ⟨g, 0, none⟩ = some (.string s) ∧ w'.cell? ⟨g, 1, none⟩ = some (.int .i64 (q : Int))) (first | exact ⟨g0, g1⟩ | go_keep | exact ⟨HR6.out.at_.1, HR6.out.at_.2.1⟩) (first | (refine step_append_text B (by simp [Region.wanted]) (.tmp 33) (.tmp 48) 44 9 5 (by rfl) Tryz.underlying44 Tryz.underlying9 info5 (.slice A acc.length n) acc (s.extract q (q + k)) (by rfl) (by rfl) (own_tch HO5.out (Tch.drew (Tch.refl w5 (fun _ => False))) (fun _ _ h => h)) hz5 (by simp; omega) ?_; intro v6 w6 hown6 hg6; have HR6 := Lib.hid (Rdr.grown (Rdr.drew HR5.out) hg6 (fun k hk => by have h1 := own_base HO5.out k hk; have h2 := HGB.out; omega)); have HT6 := Lib.hid (Tch.grown (Tch.drew HT5.out) hg6 (fun k hk => .inr (by have h1 := own_base HO5.out k hk; have h2 := HZ1.out; omega))); have HOW := Lib.hid hown6; have hz6 := Nat.le_trans hz5 hg6.size; clear hown6 hg6))
          obtain ⟨j0, j1, jf⟩ := HR6.out.at_
          have hown6 := HOW.out
          rw [HCUT.out] at hown6
          have HOW6 := Lib.hid hown6
          clear hown6
          go_wp2_with fail
          have hE : strF s p = ((strL s d (q + k)).map fun r => (btsL s (q : Int) k ++ r.1, r.2)).map fun r => (acc ++ r.1, r.2) := HE.out
          have hR7 := Rdr.set HR6.out ((q : Int) + (k : Int)) (q + k) (by simp)
          refine ⟨⟨acc ++ btsL s (q : Int) k, q + k, d, Lib.hid (own_tch HOW6.out (Tch.setCell (Tch.refl w6 (fun k => k = g)) (p := ⟨g, 1, none⟩) (.inl rfl) _) (fun k hk => by have := HGB.out; omega)), Lib.hid hR7, Lib.hid ⟨by omega, by omega, by omega, by rw [List.length_append, btsL_len]; omega⟩, Lib.hid ?_, Lib.hid (Tch.setCell HT6.out (p := ⟨g, 1, none⟩) (.inl rfl) _), Lib.hid (Nat.le_trans hz6 (Tch.setCell (Tch.refl w6 (fun k => k = g)) (p := ⟨g, 1, none⟩) (.inl rfl) _).kept.1)⟩, ?_⟩
          ·rw [hE]; cases strL s d (q + k) <;> simp [List.append_assoc]
          ·rw [posOf_at hR7, hpos]; omega
   ·rw [if_neg hqs] at HE
    refine (peek_no g s q rg tw _ HR.out (by omega) hs).mono ?_
    rintro e w2 ⟨rfl, hb2⟩
    go_wp2_with fail
    rw [HE.out]
    exact ⟨rfl, fun b q h => (by cases h), fun _ => ⟨rfl, q, Rdr.below HR.out hb2⟩, Tch.below HT.out hb2⟩
end Go.Proofs.YtndagnkhjlgjgaaGreatDoor.Read
