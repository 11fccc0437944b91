/- The reader of JSON: val by the first byte; numbers' range. Plain. -/
import Derived.Test.YtndagnkhjlgjgaaGreatDoorMember
import Derived.Carry
namespace Go.Proofs.YtndagnkhjlgjgaaGreatDoor.Read
open Go Go.RowKit YtndagnkhjlgjgaaGreatDoorW.PrintWords Str Tree Val
set_option linter.unusedVariables false
set_option linter.unusedSimpArgs false
theorem isAt_of {s : ByteArray} {p : Nat} {c : Int} (h1 : p < s.size) (h2 : bt s (p : Int) = c) : isAt s p c = true := by unfold isAt; simp [h1, h2]
theorem isAt_no {s : ByteArray} {p : Nat} {c : Int} (h2 : bt s (p : Int) ≠ c) : isAt s p c = false := by unfold isAt; simp [h2]
theorem isAt_end {s : ByteArray} {p : Nat} {c : Int} (h : s.size ≤ p) : isAt s p c = false := by unfold isAt; simp; omega
theorem isW_first {s : ByteArray} {p : Nat} {a : UInt8} {r : Array UInt8} (h : isW s p ⟨#[a] ++ r⟩ = true) : p < s.size ∧ bt s (p : Int) = (a.toNat : Int) := by
 have hle := isW_le h
 unfold isW at h
 simp only [Bool.and_eq_true, decide_eq_true_eq] at h
 have hz : 1 ≤ (⟨#[a] ++ r⟩ : ByteArray).size := by show 1 ≤ (#[a] ++ r).size; simp
 refine ⟨by omega, ?_⟩
 have hp : p < s.size := by omega
 have e : ((s.extract p (p + (⟨#[a] ++ r⟩ : ByteArray).size)).data.toList)[0]? = some a := by
  rw [h.2]; simp
 have hq := cut_get s p (p + (⟨#[a] ++ r⟩ : ByteArray).size) 0 hle (by omega)
 rw [hq] at e
 injection e with e
 have e' : s.data.toList[p]'(by rw [Array.length_toList]; exact hp) = a := e
 rw [bt_list s p hp, e']
theorem isW_not {s : ByteArray} {p : Nat} {a : UInt8} {r : Array UInt8} (h : bt s (p : Int) ≠ (a.toNat : Int)) : isW s p ⟨#[a] ++ r⟩ = false := by
 cases hc : isW s p ⟨#[a] ++ r⟩ with
 | false => rfl
 | true => exact absurd (isW_first hc).2 h
theorem noNull {s : ByteArray} {p : Nat} (h : bt s (p : Int) ≠ 110) : isW s p wNull = false := isW_not (a := 110) (r := #[117, 108, 108]) h
theorem noTrue {s : ByteArray} {p : Nat} (h : bt s (p : Int) ≠ 116) : isW s p wTrue = false := isW_not (a := 116) (r := #[114, 117, 101]) h
theorem noFalse {s : ByteArray} {p : Nat} (h : bt s (p : Int) ≠ 102) : isW s p wFalse = false := isW_not (a := 102) (r := #[97, 108, 115, 101]) h
theorem numF_no {s : ByteArray} {p : Nat} (h1 : bt s (p : Int) ≠ 45) (h2 : isD (bt s (p : Int)) = false) : numF s p = none := by
 unfold numF
 rw [if_neg (by rw [isAt_no h1]; decide), if_neg (by rw [h2]; simp)]
theorem isD_out {c : Int} (h : c < 48 ∨ 57 < c) : isD c = false := by unfold isD; simp; omega
theorem val_end (s : ByteArray) (d p : Nat) (h : s.size ≤ p) : val s (d + 1) p = none := by
 have w1 : ∀ x : ByteArray, 1 ≤ x.size → isW s p x = false := fun x hx => by unfold isW; simp; omega
 rw [val, isAt_end h, isAt_end h, isAt_end h, w1 _ (by decide), w1 _ (by decide), w1 _ (by decide)]
 unfold numF
 rw [isAt_end h]
 simp
 omega
theorem val_n (s : ByteArray) (d p : Nat) (h : bt s (p : Int) = 110) : val s (d + 1) p = if isW s p wNull = true then some (.nul, p + 4) else none := by
 rw [val, isAt_no (s := s) (p := p) (c := 91) (by omega), isAt_no (s := s) (p := p) (c := 123) (by omega), isAt_no (s := s) (p := p) (c := 34) (by omega), noTrue (s := s) (p := p) (by omega), noFalse (s := s) (p := p) (by omega), numF_no (s := s) (p := p) (by omega) (isD_out (by omega))]
 simp
theorem val_t (s : ByteArray) (d p : Nat) (h : bt s (p : Int) = 116) : val s (d + 1) p = if isW s p wTrue = true then some (.tru, p + 4) else none := by
 rw [val, isAt_no (s := s) (p := p) (c := 91) (by omega), isAt_no (s := s) (p := p) (c := 123) (by omega), isAt_no (s := s) (p := p) (c := 34) (by omega), noNull (s := s) (p := p) (by omega), noFalse (s := s) (p := p) (by omega), numF_no (s := s) (p := p) (by omega) (isD_out (by omega))]
 simp
theorem val_f (s : ByteArray) (d p : Nat) (h : bt s (p : Int) = 102) : val s (d + 1) p = if isW s p wFalse = true then some (.fls, p + 5) else none := by
 rw [val, isAt_no (s := s) (p := p) (c := 91) (by omega), isAt_no (s := s) (p := p) (c := 123) (by omega), isAt_no (s := s) (p := p) (c := 34) (by omega), noNull (s := s) (p := p) (by omega), noTrue (s := s) (p := p) (by omega), numF_no (s := s) (p := p) (by omega) (isD_out (by omega))]
 simp
theorem val_q (s : ByteArray) (d p : Nat) (hp : p < s.size) (h : bt s (p : Int) = 34) : val s (d + 1) p = (strF s p).map fun x => (.str (strOfNums x.1), x.2) := by
 rw [val, isAt_no (s := s) (p := p) (c := 91) (by omega), isAt_no (s := s) (p := p) (c := 123) (by omega), isAt_of hp h]
 simp
theorem val_num (s : ByteArray) (d p : Nat) (h1 : bt s (p : Int) ≠ 110) (h2 : bt s (p : Int) ≠ 116) (h3 : bt s (p : Int) ≠ 102) (h4 : bt s (p : Int) ≠ 34) (h5 : bt s (p : Int) ≠ 91) (h6 : bt s (p : Int) ≠ 123) :
  val s (d + 1) p = (numF s p).map fun q => (.num (s.extract p q), q) := by
 rw [val, isAt_no h5, isAt_no h6, isAt_no h4, noNull h1, noTrue h2, noFalse h3]
 simp
theorem val_arr (s : ByteArray) (d p : Nat) (hp : p < s.size) (h : bt s (p : Int) = 91) : val s (d + 1) p = (itF s (step1 s d) 93 p []).map fun x => (.arr x.1, x.2) := by
 rw [val, isAt_of hp h, if_pos rfl]
 unfold itF
 by_cases c : isAt s (skip s (p + 1)) 93 = true
 ·rw [if_pos c, if_pos c]; rfl
 ·rw [if_neg c, if_neg c, itG_items s d _ _ _ (skip_idem s _)]
  cases itemsF s (fun q => val s d q) s.size (skip s (p + 1)) <;> simp
theorem val_obj (s : ByteArray) (d p : Nat) (hp : p < s.size) (h : bt s (p : Int) = 123) : val s (d + 1) p = (itF s (step2 s d) 125 p []).map fun x => (.obj x.1, x.2) := by
 rw [val, isAt_no (s := s) (p := p) (c := 91) (by omega), isAt_of hp h]
 simp only [Bool.false_eq_true, if_false, if_true]
 unfold itF
 by_cases c : isAt s (skip s (p + 1)) 125 = true
 ·rw [if_pos c, if_pos c]; rfl
 ·rw [if_neg c, if_neg c, itG_members s d]
  cases membersF s (fun q => val s d q) s.size (skip s (p + 1)) <;> simp
theorem intSat_range (l : List UInt8) : -9223372036854775808 ≤ Lib.intSat 64 l ∧ Lib.intSat 64 l ≤ 9223372036854775807 := by
 unfold Lib.intSat
 have e : (2 ^ (64 - 1) : Nat) = 9223372036854775808 := by decide
 rw [e]
 by_cases h : l.head?.map (·.toNat) = some 45
 ·rw [if_pos h]; omega
 ·rw [if_neg h]; omega
theorem parse_range {l : List UInt8} {v : Int} (h : Lib.parseIntB 64 l = .ok v) : -9223372036854775808 ≤ v ∧ v ≤ 9223372036854775807 := by
 match l with
 | [] => simp [Lib.parseIntB] at h
 | c :: r =>
  unfold Lib.parseIntB at h
  have e : (2 ^ (64 - 1) : Nat) = 9223372036854775808 := by decide
  rw [e] at h
  simp only [] at h
  generalize Lib.parseUintB 64 (if c.toNat = 43 ∨ c.toNat = 45 then r else c :: r) = x at h
  cases x with
  | range => cases h
  | ok u =>
   simp only [] at h
   by_cases c1 : ¬ c.toNat = 45 ∧ 9223372036854775808 ≤ u
   ·rw [if_pos c1] at h; cases h
   ·rw [if_neg c1] at h
    by_cases c2 : c.toNat = 45 ∧ 9223372036854775808 < u
    ·rw [if_pos c2] at h; cases h
    ·rw [if_neg c2] at h
     injection h with h
     subst h
     by_cases c3 : c.toNat = 45
     ·rw [if_pos c3]; omega
     ·rw [if_neg c3]; omega
  | _ => cases h
theorem numV_range (x : ByteArray) : -9223372036854775808 ≤ numV x ∧ numV x ≤ 9223372036854775807 := by
 unfold numV
 cases h : Lib.parseIntB 64 x.data.toList with
 | ok v => exact parse_range h
 | range => exact intSat_range _
 | _ => exact ⟨(by decide : (-9223372036854775808 : Int) ≤ 0), (by decide : (0 : Int) ≤ 9223372036854775807)⟩
end Go.Proofs.YtndagnkhjlgjgaaGreatDoor.Read
namespace Go.Proofs.YtndagnkhjlgjgaaGreatDoor.Read
open Go Go.RowKit YtndagnkhjlgjgaaGreatDoorW.PrintWords YtndagnkhjlgjgaaGreatDoorW.PrintLast Str Tchs Tree Val
set_option linter.unusedVariables false
set_option linter.unusedSimpArgs false
theorem Rdr_inj {w : World} {g : Nat} {s : ByteArray} {p p2 : Nat} {rg tw rg2 tw2 : Bool} (h : Rdr w g s p rg tw) (k : Rdr w g s p2 rg2 tw2) : rg = rg2 ∧ tw = tw2 := by
 unfold Rdr at h k
 rw [h] at k
 simp only [Option.some.injEq, Obj.cells.injEq, Array.mk.injEq, List.cons.injEq, Value.bool.injEq] at k
 exact ⟨k.1.2.2.1, k.1.2.2.2.1⟩
theorem step1_le {s : ByteArray} {d q : Nat} {acc acc' : List T} {r : Nat} (h : step1 s d q acc = some (acc', r)) : q + 1 ≤ r ∧ r ≤ s.size := by
 unfold step1 at h
 cases hv : val s d (skip s q) with
 | none => rw [hv] at h; cases h
 | some x =>
  obtain ⟨t, r1⟩ := x
  rw [hv] at h
  injection h with h
  injection h with _ h
  have h1 := val_le s d _ t r1 hv
  have h2 := runF_le isB s q
  unfold skip at h1
  omega
theorem step2_le {s : ByteArray} {d q : Nat} {acc acc' : List (ByteArray × T)} {r : Nat} (h : step2 s d q acc = some (acc', r)) : q + 1 ≤ r ∧ r ≤ s.size := by
 unfold step2 at h
 cases hs : strF s q with
 | none => rw [hs] at h; cases h
 | some y =>
  obtain ⟨b, r1⟩ := y
  rw [hs] at h
  simp only [] at h
  by_cases hc : isAt s (skip s r1) 58 = true
  ·rw [if_pos hc] at h
   cases hv : val s d (skip s (skip s r1 + 1)) with
   | none => rw [hv] at h; cases h
   | some x =>
    obtain ⟨t, r2⟩ := x
    rw [hv] at h
    injection h with h
    injection h with _ h
    have h1 := val_le s d _ t r2 hv
    have h2 := runF_le isB s r1
    have h3 := runF_le isB s (skip s r1 + 1)
    have h4 := strF_le hs
    unfold skip at h1 h3
    omega
  ·rw [if_neg hc] at h; cases h
theorem arr_items (g : Nat) (s : ByteArray) (hs : s.size ≤ 1048576) (hg4 : 4 < g ∧ 2 < g) (d : Nat) (ih : ValAt g s d) (q B R : Nat) (rg tw : Bool) (w W : World) (hg : g < w.heap.size) (hT : Lib.Utf8Tabs 1 2 w) (hE : EV w)
  (hd : s.size < q + 1 + d) (h : Inv1 g s d q B R rg tw w W q []) (hq : q < s.size) :
  Calls Tryz.prog 130 #[.pointer (some ⟨g, 0, none⟩), .int .u8 93, .func (.func 131) #[] #[.pointer (some ⟨B, 0, none⟩), .pointer (some ⟨R, 0, none⟩)]] W fun e w' =>
   (∀ l r, itF s (step1 s d) 93 q [] = some (l, r) → e = .returned (.tuple #[]) ∧ Inv1 g s d q B R rg tw w w' r l) ∧ (itF s (step1 s d) 93 q [] = none → e = .panicked noForm ∧ Tch w w' (fun k => k = g)) := by
 refine items1 g s hs 93 q _ (fun W r acc => Inv1 g s d q B R rg tw w W r acc) (fun W => Tch w W (fun k => k = g)) (step1 s d) (fun W r acc hI => ⟨_, _, hI.rd⟩) (fun W r acc hI => hI.tch) ?_ (fun a b c r hh => step1_le hh) (fun W r acc hI h1 h2 => closure1 g s d q B R rg tw w hs ih hg hT hE hg4 hd W r acc hI h1 h2) (fun W W' h1 h2 => Tch.then_ h1 h2 (fun k hk => .inl hk)) W [] h hq (by decide)
 intro W1 W2 q1 r1 acc rg1 tw1 hle hI hr1 hr2 ht
 obtain ⟨e1, e2⟩ := Rdr_inj hr1 hI.rd
 subst e1
 subst e2
 obtain ⟨u, cs, hb, hrow, hvl⟩ := hI.ob
 refine ⟨hr2, by have := hI.pq; omega, blk_kept hI.rb ht.kept (fun e => by have := hI.new.2; omega), ⟨u, cs, blk_kept hb ht.kept (fun e => by have := hI.new.1; omega), own_tch hrow ht (fun k hk e => by have e : k = g := e; omega), VL_step ?_ (fun k hk _ => hk) _ _ hvl⟩, Tch.then_ hI.tch ht (fun k hk => .inl hk), by have := hI.lim; omega, hI.new⟩
 rintro k ⟨h1, _, _⟩ hk
 exact ht.kept.2 k hk (fun e => by have e : k = g := e; omega)
theorem obj_items (g : Nat) (s : ByteArray) (hs : s.size ≤ 1048576) (hg4 : 4 < g ∧ 2 < g) (d : Nat) (ih : ValAt g s d) (q B R : Nat) (rg tw : Bool) (w W : World) (hg : g < w.heap.size) (hT : Lib.Utf8Tabs 1 2 w) (hE : EV w)
  (hd : s.size < q + 1 + d) (h : Inv2 g s d q B R rg tw w W q []) (hq : q < s.size) :
  Calls Tryz.prog 130 #[.pointer (some ⟨g, 0, none⟩), .int .u8 125, .func (.func 132) #[] #[.pointer (some ⟨R, 0, none⟩), .pointer (some ⟨B, 0, none⟩)]] W fun e w' =>
   (∀ l r, itF s (step2 s d) 125 q [] = some (l, r) → e = .returned (.tuple #[]) ∧ Inv2 g s d q B R rg tw w w' r l) ∧ (itF s (step2 s d) 125 q [] = none → e = .panicked noForm ∧ Tch w w' (fun k => k = g)) := by
 refine items2 g s hs 125 q _ (fun W r acc => Inv2 g s d q B R rg tw w W r acc) (fun W => Tch w W (fun k => k = g)) (step2 s d) (fun W r acc hI => ⟨_, _, hI.rd⟩) (fun W r acc hI => hI.tch) ?_ (fun a b c r hh => step2_le hh) (fun W r acc hI h1 h2 => closure2 g s d q B R rg tw w hs ih hg hT hE hg4 hd W r acc hI h1 h2) (fun W W' h1 h2 => Tch.then_ h1 h2 (fun k hk => .inl hk)) W [] h hq (by decide)
 intro W1 W2 q1 r1 acc rg1 tw1 hle hI hr1 hr2 ht
 obtain ⟨e1, e2⟩ := Rdr_inj hr1 hI.rd
 subst e1
 subst e2
 obtain ⟨m, n, ds, hb, hm, hn, hmap, hvm⟩ := hI.ob
 refine ⟨hr2, by have := hI.pq; omega, blk_kept hI.rb ht.kept (fun e => by have := hI.new.2; omega), ⟨m, n, ds, blk_kept hb ht.kept (fun e => by have := hI.new.1; omega), hm, hn, map_step hmap (ht.kept.2 m (map_lt hmap) (fun e => by have e : m = g := e; omega)), VM_step ?_ (fun k hk _ => hk) _ _ hvm⟩, Tch.then_ hI.tch ht (fun k hk => .inl hk), by have := hI.lim; omega, hI.new⟩
 rintro k ⟨h1, _, _⟩ hk
 exact ht.kept.2 k hk (fun e => by have e : k = g := e; omega)
theorem valAt_zero (g : Nat) (s : ByteArray) : ValAt g s 0 := fun w p rg tw _ hp hd _ _ => by omega
set_option maxRecDepth 100000 in
set_option maxHeartbeats 8000000 in
theorem valAt_succ (g : Nat) (s : ByteArray) (hs : s.size ≤ 1048576) (hg4 : 4 < g ∧ 2 < g) (d : Nat) (ih : ValAt g s d) : ValAt g s (d + 1) := by
 intro w p rg tw h hp hd hT hE
 have IH := Lib.hid ih
 have H := Lib.hid h
 have HTB := Lib.hid hT
 have HEV := Lib.hid hE
 have hgl := h.lt
 have HDs := Lib.hid hd
 have HGL := Lib.hid hgl
 clear ih h hT hE hd hgl
 go_enter Tryz.func102, Tryz.ntmps102
 go_wp2_with fail
 have HR1 := Lib.hid (Rdr.below H.out (below_alloc (Below.refl w.heap.size w) (.cells #[.pointer (some ⟨g, 0, none⟩)] 95)))
 have HT1 := Lib.hid (Tch.alloc (Tch.refl w (fun k => k = g)) (.cells #[.pointer (some ⟨g, 0, none⟩)] 95))
 have HRB1 := Lib.hid (heap_alloc_new w (.cells #[.pointer (some ⟨g, 0, none⟩)] 95))
 have HRN := Lib.hid (show w.heap.size ≠ g from fun e => by have := HGL.out; omega)
 generalize w.alloc (.cells #[.pointer (some ⟨g, 0, none⟩)] 95) = w1 at HR1 HT1 HRB1 ⊢
 refine (blanks g s p _ _ _ HR1.out hp hs).mono ?_
 rintro e w2 ⟨rfl, hr2, ht2⟩
 have HR2 := Lib.hid hr2
 have HT2 := Lib.hid (Tch.then_ HT1.out ht2 (fun k hk => .inl hk))
 have HRB2 := Lib.hid (blk_kept HRB1.out ht2.kept HRN.out)
 have c2 := blk_cell HRB2.out 0
 simp only [List.getElem?_toArray, List.getElem?_cons_zero] at c2
 have hk2 := runF_le isB s p
 have HK2 := Lib.hid (show p ≤ skip s p ∧ skip s p ≤ s.size from ⟨hk2.1, hk2.2 hp⟩)
 clear hr2 ht2 HR1 HT1 HRB1 hk2
 generalize hqe : skip s p = q at HR2 HK2
 have HQ := Lib.hid hqe
 clear hqe
 go_wp2_with fail
 by_cases hqs : s.size ≤ q
 ·refine (peek_no g s q _ _ _ HR2.out hqs hs).mono ?_
  rintro e w3 ⟨rfl, hb3⟩
  have HE := Lib.hid (val_end s d q hqs)
  exact ⟨rfl, fun t r hh => (by rw [HQ.out, HE.out] at hh; cases hh), fun _ => rfl, Tch.below HT2.out hb3⟩
 have hqs' : q < s.size := by omega
 refine (peek_ok g s q _ _ _ HR2.out hqs' hs).mono ?_
 rintro e w3 ⟨rfl, hb3⟩
 have HR3 := Lib.hid (Rdr.below HR2.out hb3)
 have HT3 := Lib.hid (Tch.below HT2.out hb3)
 have HRB3 := Lib.hid (blk_below HRB2.out hb3)
 have c3 := blk_cell HRB3.out 0
 simp only [List.getElem?_toArray, List.getElem?_cons_zero] at c3
 clear hb3 HR2 HT2 HRB2 c2 hqs
 by_cases h110 : bt s (q : Int) = 110
 ·have d110 : (bt s (q : Int) == 110) = true := beq_iff_eq.2 h110
  have HE := Lib.hid (val_n s d q h110)
  clear h110
  go_wp2_with fail
  cases hw : isW s q wNull with
  | false =>
   refine (want_no g s q _ _ wNull _ HR3.out HK2.out.2 hs (by rw [pre_w s q _ HK2.out.2, hw])).mono ?_
   rintro e w4 ⟨rfl, hb4⟩
   have HE2 := HE.out
   rw [hw] at HE2
   exact ⟨rfl, fun t r hh => (by rw [HQ.out, HE2] at hh; cases hh), fun _ => rfl, Tch.below HT3.out hb4⟩
  | true =>
   refine (want_ok g s q _ _ wNull _ HR3.out HK2.out.2 hs (by rw [pre_w s q _ HK2.out.2, hw]) (by decide)).mono ?_
   rintro e w4 ⟨rfl, hr4, ht4⟩
   have HR4 := Lib.hid hr4
   have HT4 := Lib.hid (Tch.then_ HT3.out ht4 (fun k hk => .inl hk))
   clear hr4 ht4 HR3 HT3 HRB3 c3
   go_wp2_with fail
   go_ret
   have HE2 := HE.out
   rw [hw, if_pos rfl] at HE2
   refine ⟨fun t r hh => ?_, fun hh => (by rw [HQ.out, HE2] at hh; cases hh), HT4.out⟩
   rw [HQ.out, HE2] at hh
   injection hh with hh
   injection hh with hh1 hh2
   subst hh1
   subst hh2
   exact ⟨_, rfl, by rw [norm, V]; rfl, by simp only [big, twice, Bool.or_false]; exact HR4.out⟩
 have n110 : (bt s (q : Int) == 110) = false := beq_eq_false_iff_ne.2 h110
 by_cases h116 : bt s (q : Int) = 116
 ·have d116 : (bt s (q : Int) == 116) = true := beq_iff_eq.2 h116
  have HE := Lib.hid (val_t s d q h116)
  clear h116
  go_wp2_with fail
  cases hw : isW s q wTrue with
  | false =>
   refine (want_no g s q _ _ wTrue _ HR3.out HK2.out.2 hs (by rw [pre_w s q _ HK2.out.2, hw])).mono ?_
   rintro e w4 ⟨rfl, hb4⟩
   have HE2 := HE.out
   rw [hw] at HE2
   exact ⟨rfl, fun t r hh => (by rw [HQ.out, HE2] at hh; cases hh), fun _ => rfl, Tch.below HT3.out hb4⟩
  | true =>
   refine (want_ok g s q _ _ wTrue _ HR3.out HK2.out.2 hs (by rw [pre_w s q _ HK2.out.2, hw]) (by decide)).mono ?_
   rintro e w4 ⟨rfl, hr4, ht4⟩
   have HR4 := Lib.hid hr4
   have HT4 := Lib.hid (Tch.then_ HT3.out ht4 (fun k hk => .inl hk))
   clear hr4 ht4 HR3 HT3 HRB3 c3
   go_wp2_with fail
   go_ret
   have HE2 := HE.out
   rw [hw, if_pos rfl] at HE2
   refine ⟨fun t r hh => ?_, fun hh => (by rw [HQ.out, HE2] at hh; cases hh), HT4.out⟩
   rw [HQ.out, HE2] at hh
   injection hh with hh
   injection hh with hh1 hh2
   subst hh1
   subst hh2
   exact ⟨_, rfl, by rw [norm, V]; rfl, by simp only [big, twice, Bool.or_false]; exact HR4.out⟩
 have n116 : (bt s (q : Int) == 116) = false := beq_eq_false_iff_ne.2 h116
 by_cases h102 : bt s (q : Int) = 102
 ·have d102 : (bt s (q : Int) == 102) = true := beq_iff_eq.2 h102
  have HE := Lib.hid (val_f s d q h102)
  clear h102
  go_wp2_with fail
  cases hw : isW s q wFalse with
  | false =>
   refine (want_no g s q _ _ wFalse _ HR3.out HK2.out.2 hs (by rw [pre_w s q _ HK2.out.2, hw])).mono ?_
   rintro e w4 ⟨rfl, hb4⟩
   have HE2 := HE.out
   rw [hw] at HE2
   exact ⟨rfl, fun t r hh => (by rw [HQ.out, HE2] at hh; cases hh), fun _ => rfl, Tch.below HT3.out hb4⟩
  | true =>
   refine (want_ok g s q _ _ wFalse _ HR3.out HK2.out.2 hs (by rw [pre_w s q _ HK2.out.2, hw]) (by decide)).mono ?_
   rintro e w4 ⟨rfl, hr4, ht4⟩
   have HR4 := Lib.hid hr4
   have HT4 := Lib.hid (Tch.then_ HT3.out ht4 (fun k hk => .inl hk))
   clear hr4 ht4 HR3 HT3 HRB3 c3
   go_wp2_with fail
   go_ret
   have HE2 := HE.out
   rw [hw, if_pos rfl] at HE2
   refine ⟨fun t r hh => ?_, fun hh => (by rw [HQ.out, HE2] at hh; cases hh), HT4.out⟩
   rw [HQ.out, HE2] at hh
   injection hh with hh
   injection hh with hh1 hh2
   subst hh1
   subst hh2
   exact ⟨_, rfl, by rw [norm, V]; rfl, by simp only [big, twice, Bool.or_false]; exact HR4.out⟩
 have n102 : (bt s (q : Int) == 102) = false := beq_eq_false_iff_ne.2 h102
 by_cases h34 : bt s (q : Int) = 34
 ·have d34 : (bt s (q : Int) == 34) = true := beq_iff_eq.2 h34
  have HE := Lib.hid (val_q s d q hqs' h34)
  clear h34
  go_wp2_with fail
  refine (str g s q _ _ _ HR3.out HK2.out.2 hs (tabs_tch HTB.out HT3.out (by have := hg4.2; omega) (by have := hg4.2; omega)) (by have := hg4.2; omega)).mono ?_
  rintro e w4 ⟨hok, hno, ht4⟩
  have HT4 := Lib.hid (Tch.then_ HT3.out ht4 (fun k hk => .inl hk))
  cases hn : strF s q with
  | none =>
   obtain ⟨rfl, _⟩ := hno hn
   have HE2 := HE.out
   rw [hn] at HE2
   exact ⟨rfl, fun t r hh => (by rw [HQ.out, HE2] at hh; cases hh), fun _ => rfl, HT4.out⟩
  | some y =>
   obtain ⟨b0, r0⟩ := y
   obtain ⟨rfl, hr4⟩ := hok b0 r0 hn
   have HR4 := Lib.hid hr4
   clear hok hno ht4 hr4 HR3 HT3 HRB3 c3
   go_wp2_with fail
   go_ret
   have HE2 := HE.out
   rw [hn] at HE2
   refine ⟨fun t r hh => ?_, fun hh => (by rw [HQ.out, HE2] at hh; cases hh), HT4.out⟩
   rw [HQ.out, HE2] at hh
   injection hh with hh
   injection hh with hh1 hh2
   subst hh1
   subst hh2
   exact ⟨_, rfl, by rw [norm, V]; rfl, by simp only [big, twice, Bool.or_false]; exact HR4.out⟩
 have n34 : (bt s (q : Int) == 34) = false := beq_eq_false_iff_ne.2 h34
 by_cases h91 : bt s (q : Int) = 91
 ·have d91 : (bt s (q : Int) == 91) = true := beq_iff_eq.2 h91
  have HE := Lib.hid (val_arr s d q hqs' h91)
  clear h91
  have HW := Lib.hid (show Inv1 g s d q (w3.heap.size + 1) w.heap.size rg tw w ((w3.alloc (.cells #[] 55)).alloc (.cells #[.slice (some ⟨w3.heap.size, 0, none⟩) 0 0] 105)) q [] from by
   have hz : w.heap.size ≤ w3.heap.size := HT3.out.kept.1
   have hz1 : (w3.alloc (.cells #[] 55)).heap.size = w3.heap.size + 1 := by simp
   refine ⟨?_, Nat.le_refl _, blk_alloc (blk_alloc HRB3.out _) _, ⟨.slice (some ⟨w3.heap.size, 0, none⟩) 0 0, [], ?_, ?_, ?_⟩, Tch.alloc (Tch.alloc HT3.out _) _, Nat.zero_le _, ⟨by omega, Nat.le_refl _⟩⟩
   ·rw [bigL, twiceL, Bool.or_false, Bool.or_false]; exact blk_alloc (blk_alloc HR3.out _) _
   ·have := heap_alloc_new (w3.alloc (.cells #[] 55)) (.cells #[.slice (some ⟨w3.heap.size, 0, none⟩) 0 0] 105)
    rw [hz1] at this
    exact this
   ·have h := World.ownsRow_lit (base := w.heap.size) (e := 55) (size := 1) w3 #[] 0 hz (by decide) (by rfl)
    exact own_alloc (by simpa using h) _
   ·rw [normL, VL])
  have cA := blk_cell (blk_alloc (blk_alloc HRB3.out (.cells #[] 55)) (.cells #[.slice (some ⟨w3.heap.size, 0, none⟩) 0 0] 105)) 0
  simp only [List.getElem?_toArray, List.getElem?_cons_zero] at cA
  go_wp2_with fail
  refine (arr_items g s hs hg4 d IH.out q _ _ rg tw w _ HGL.out HTB.out HEV.out (by have := HDs.out; have := HK2.out.1; omega) HW.out hqs').mono ?_
  rintro e w4 ⟨hok, hno⟩
  cases hn : itF s (step1 s d) 93 q [] with
  | none =>
   obtain ⟨rfl, ht4⟩ := hno hn
   have HE2 := HE.out
   rw [hn] at HE2
   exact ⟨rfl, fun t r hh => (by rw [HQ.out, HE2] at hh; cases hh), fun _ => rfl, ht4⟩
  | some y =>
   obtain ⟨l0, r0⟩ := y
   obtain ⟨rfl, hi⟩ := hok l0 r0 hn
   have HI := Lib.hid hi
   obtain ⟨u, cs, hb, hrow, hvl⟩ := hi.ob
   have cB := blk_cell hb 0
   simp only [List.getElem?_toArray, List.getElem?_cons_zero] at cB
   obtain ⟨A, n, rfl⟩ := own_slice hrow
   have HROW := Lib.hid hrow
   have HVL := Lib.hid hvl
   clear hok hno hi hb hrow hvl HR3 HT3 HRB3 c3 HW cA
   go_wp2_with fail
   go_ret
   have HE2 := HE.out
   rw [hn] at HE2
   refine ⟨fun t r hh => ?_, fun hh => (by rw [HQ.out, HE2] at hh; cases hh), HI.out.tch⟩
   rw [HQ.out, HE2] at hh
   injection hh with hh
   injection hh with hh1 hh2
   subst hh1
   subst hh2
   refine ⟨_, rfl, ?_, by rw [big, twice]; exact HI.out.rd⟩
   rw [norm, V]
   exact ⟨_, cs, rfl, by rw [normL_len]; exact own_weaken HROW.out (Nat.zero_le _), fun k hk => own_base HROW.out k hk, VL_mono HVL.out (fun k hk => hk.1)⟩
 have n91 : (bt s (q : Int) == 91) = false := beq_eq_false_iff_ne.2 h91
 by_cases h123 : bt s (q : Int) = 123
 ·have d123 : (bt s (q : Int) == 123) = true := beq_iff_eq.2 h123
  have HE := Lib.hid (val_obj s d q hqs' h123)
  clear h123
  have hmm := @run_makeMap Tryz.prog
  have HW := Lib.hid (show Inv2 g s d q (w3.heap.size + 1) w.heap.size rg tw w ((w3.alloc (.map #[] 0)).alloc (.cells #[.map (some w3.heap.size)] 103)) q [] from by
   have hz : w.heap.size ≤ w3.heap.size := HT3.out.kept.1
   have hz1 : (w3.alloc (.map #[] 0)).heap.size = w3.heap.size + 1 := by simp
   refine ⟨?_, Nat.le_refl _, blk_alloc (blk_alloc HRB3.out _) _, ⟨w3.heap.size, 0, [], ?_, hz, Nat.le_refl _, ?_, ?_⟩, Tch.alloc (Tch.alloc HT3.out _) _, Nat.zero_le _, ⟨by omega, Nat.le_refl _⟩⟩
   ·rw [bigM, twiceM, Bool.or_false, Bool.or_false]; exact blk_alloc (blk_alloc HR3.out _) _
   ·have := heap_alloc_new (w3.alloc (.map #[] 0)) (.cells #[.map (some w3.heap.size)] 103)
    rw [hz1] at this
    exact this
   ·exact map_step (World.ownsMap_made w3 Tryz.prog 9 Rd) (Below.heap_alloc _ _ _ (by rw [hz1]; omega))
   ·rw [normM, VM])
  have cA := blk_cell (blk_alloc (blk_alloc HRB3.out (.map #[] 0)) (.cells #[.map (some w3.heap.size)] 103)) 0
  simp only [List.getElem?_toArray, List.getElem?_cons_zero] at cA
  go_wp2_with fail
  refine (obj_items g s hs hg4 d IH.out q _ _ rg tw w _ HGL.out HTB.out HEV.out (by have := HDs.out; have := HK2.out.1; omega) HW.out hqs').mono ?_
  rintro e w4 ⟨hok, hno⟩
  cases hn : itF s (step2 s d) 125 q [] with
  | none =>
   obtain ⟨rfl, ht4⟩ := hno hn
   have HE2 := HE.out
   rw [hn] at HE2
   exact ⟨rfl, fun t r hh => (by rw [HQ.out, HE2] at hh; cases hh), fun _ => rfl, ht4⟩
  | some y =>
   obtain ⟨l0, r0⟩ := y
   obtain ⟨rfl, hi⟩ := hok l0 r0 hn
   have HI := Lib.hid hi
   obtain ⟨m, n, ds, hb, hm, hnn, hmap, hvm⟩ := hi.ob
   have cB := blk_cell hb 0
   simp only [List.getElem?_toArray, List.getElem?_cons_zero] at cB
   have HM0 := Lib.hid hm
   have HMAP := Lib.hid hmap
   have HVM := Lib.hid hvm
   clear hok hno hi hb hm hnn hmap hvm HR3 HT3 HRB3 c3 HW cA
   go_wp2_with fail
   go_ret
   have HE2 := HE.out
   rw [hn] at HE2
   refine ⟨fun t r hh => ?_, fun hh => (by rw [HQ.out, HE2] at hh; cases hh), HI.out.tch⟩
   rw [HQ.out, HE2] at hh
   injection hh with hh
   injection hh with hh1 hh2
   subst hh1
   subst hh2
   refine ⟨_, rfl, ?_, by rw [big, twice]; exact HI.out.rd⟩
   rw [norm, V]
   exact ⟨m, n, ds, rfl, HM0.out, HMAP.out, VM_mono HVM.out (fun k hk => hk.1)⟩
 have n123 : (bt s (q : Int) == 123) = false := beq_eq_false_iff_ne.2 h123
 have HE := Lib.hid (val_num s d q h110 h116 h102 h34 h91 h123)
 clear h110 h116 h102 h34 h91 h123
 go_wp2_with fail
 refine (number g s q _ _ _ HR3.out HK2.out.2 hs (EV.tch HEV.out HT3.out (by have := hg4.1; omega)) hg4.1).mono ?_
 rintro e w4 ⟨hok, hno, ht4⟩
 have HT4 := Lib.hid (Tch.then_ HT3.out ht4 (fun k hk => .inl hk))
 cases hn : numF s q with
 | none =>
  obtain rfl := hno hn
  have HE2 := HE.out
  rw [hn] at HE2
  exact ⟨rfl, fun t r hh => (by rw [HQ.out, HE2] at hh; cases hh), fun _ => rfl, HT4.out⟩
 | some r0 =>
  obtain ⟨rfl, hr4⟩ := hok r0 hn
  have HR4 := Lib.hid hr4
  clear hok hno ht4 hr4 HR3 HT3 HRB3 c3
  go_wp2_with fail
  go_ret
  have HE2 := HE.out
  rw [hn] at HE2
  refine ⟨fun t r hh => ?_, fun hh => (by rw [HQ.out, HE2] at hh; cases hh), HT4.out⟩
  rw [HQ.out, HE2] at hh
  injection hh with hh
  injection hh with hh1 hh2
  subst hh1
  subst hh2
  exact ⟨_, rfl, by rw [norm, V]; exact ⟨_, rfl, rfl, (numV_range _).1, (numV_range _).2⟩, by simp only [big, twice, Bool.or_false]; exact HR4.out⟩
theorem valAt (g : Nat) (s : ByteArray) (hs : s.size ≤ 1048576) (hg4 : 4 < g ∧ 2 < g) : ∀ d, ValAt g s d
 | 0 => valAt_zero g s
 | d + 1 => valAt_succ g s hs hg4 d (valAt g s hs hg4 d)
end Go.Proofs.YtndagnkhjlgjgaaGreatDoor.Read
