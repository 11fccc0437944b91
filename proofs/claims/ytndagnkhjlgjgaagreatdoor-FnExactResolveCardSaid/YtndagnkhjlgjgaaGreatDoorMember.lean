/- The reader of JSON: value's closure of an object (value$2), by hand. -/
import Derived.Test.YtndagnkhjlgjgaaGreatDoorValue
import Derived.Maps.Keyed
import Derived.Maps.Own
import Derived.Deep.QuietTactic
import Derived.BigQuiet
namespace Go.Proofs.YtndagnkhjlgjgaaGreatDoor.Read
open Go Go.RowKit YtndagnkhjlgjgaaGreatDoorW.PrintWords YtndagnkhjlgjgaaGreatDoorW.PrintLast Str Tchs Tree Val
set_option linter.unusedVariables false
set_option linter.unusedSimpArgs false
theorem normM_snoc (k : ByteArray) (t : T) : ∀ (l m : List (ByteArray × T)), normM m (l ++ [(k, t)]) = putK k (norm t) (normM m l)
 | [], m => by show normM m [(k, t)] = _; rw [normM, normM, normM]
 | (k1, x) :: l, m => by
  show normM m ((k1, x) :: (l ++ [(k, t)])) = _
  rw [normM, normM, normM_snoc k t l]
theorem bigM_snoc (f : ByteArray → Bool) (k : ByteArray) (t : T) : ∀ (l : List (ByteArray × T)), bigM f (l ++ [(k, t)]) = (bigM f l || big f t)
 | [] => by show bigM f [(k, t)] = _; rw [bigM, bigM, bigM]; simp
 | (k1, x) :: l => by
  show bigM f ((k1, x) :: (l ++ [(k, t)])) = _
  rw [bigM, bigM, bigM_snoc f k t l, Bool.or_assoc]
theorem twiceM_snoc (k : ByteArray) (t : T) : ∀ (l : List (ByteArray × T)) (p : List ByteArray), twiceM p (l ++ [(k, t)]) = (twiceM p l || twice t || hasKey (p ++ l.map Prod.fst) k)
 | [], p => by show twiceM p [(k, t)] = _; rw [twiceM, twiceM, twiceM]; simp
 | (k1, x) :: l, p => by
  show twiceM p ((k1, x) :: (l ++ [(k, t)])) = _
  rw [twiceM, twiceM, twiceM_snoc k t l]
  simp [Bool.or_assoc]
theorem any_ins (k k1 : ByteArray) (t : T) : ∀ l : List (ByteArray × T), (insK (k1, t) l).any (fun p => p.1.data.toList == k.data.toList) = ((k1.data.toList == k.data.toList) || l.any (fun p => p.1.data.toList == k.data.toList))
 | [] => by simp [insK]
 | y :: l => by
  rw [insK]
  split
  ·simp
  ·rw [List.any_cons, any_ins k k1 t l, List.any_cons, Bool.or_left_comm]
theorem any_drop (k k1 : ByteArray) : ∀ l : List (ByteArray × T), ((k1.data.toList == k.data.toList) || (l.filter fun p => !(p.1.data.toList == k1.data.toList)).any (fun p => p.1.data.toList == k.data.toList)) = ((k1.data.toList == k.data.toList) || l.any (fun p => p.1.data.toList == k.data.toList))
 | [] => rfl
 | y :: l => by
  have ih := any_drop k k1 l
  by_cases h : (y.1.data.toList == k1.data.toList) = true
  ·rw [List.filter_cons_of_neg (by simp [h]), ih, List.any_cons]
   have e := eq_of_beq h
   rw [e, ← Bool.or_assoc, Bool.or_self]
  ·rw [List.filter_cons_of_pos (by simp [h]), List.any_cons, List.any_cons, Bool.or_left_comm, ih, Bool.or_left_comm]
theorem any_put (k k1 : ByteArray) (t : T) (l : List (ByteArray × T)) : (putK k1 t l).any (fun p => p.1.data.toList == k.data.toList) = ((k1.data.toList == k.data.toList) || l.any (fun p => p.1.data.toList == k.data.toList)) := by
 unfold putK
 rw [any_ins, any_drop]
theorem any_norm (k : ByteArray) : ∀ (l m : List (ByteArray × T)), (normM m l).any (fun p => p.1.data.toList == k.data.toList) = (m.any (fun p => p.1.data.toList == k.data.toList) || hasKey (l.map Prod.fst) k)
 | [], m => by rw [normM]; simp [hasKey]
 | (k1, x) :: l, m => by
  rw [normM, any_norm k l, any_put]
  simp only [hasKey, List.map_cons, List.any_cons]
  rw [Bool.or_assoc, Bool.or_left_comm]
theorem pre_w (s : ByteArray) (p : Nat) (x : ByteArray) (hp : p ≤ s.size) : pre s p x = isW s p x := by
 have hl : (List.take (s.size - p) (List.drop p s.data.toList)) = List.drop p s.data.toList := List.take_of_length_le (by rw [List.length_drop, Array.length_toList]; exact Nat.le_refl _)
 have hn : (List.drop p s.data.toList).length = s.size - p := by rw [List.length_drop, Array.length_toList]; rfl
 have hx : x.data.toList.length = x.size := by rw [Array.length_toList]; rfl
 unfold pre isW
 rw [hl, ← Lib.hasPrefix_of_take, hn, hx]
 congr 1
 ·rw [Bool.eq_iff_iff, decide_eq_true_eq, decide_eq_true_eq]; omega
 ·rw [Bool.eq_iff_iff, beq_iff_eq, decide_eq_true_eq]
  constructor
  ·intro h
   apply ByteArray.ext
   apply Array.toList_inj.1
   rw [← h]
   simp [List.take_drop]
  ·intro h
   have e : (s.extract p (p + x.size)).data.toList = List.take x.size (List.drop p s.data.toList) := by simp [List.take_drop]
   rw [← e, h]
theorem pre_c (s : ByteArray) (q : Nat) : pre s q ⟨#[58]⟩ = isAt s q 58 := by
 rw [Bool.eq_iff_iff]
 have hl : (List.take (s.size - q) (List.drop q s.data.toList)) = List.drop q s.data.toList := List.take_of_length_le (by rw [List.length_drop, Array.length_toList]; exact Nat.le_refl _)
 have hn : (List.drop q s.data.toList).length = s.size - q := by rw [List.length_drop, Array.length_toList]; rfl
 have b0 := bt_getD s q
 have g0 : (List.drop q s.data.toList).getD 0 0 = s.data.toList.getD q 0 := by simp [List.getD_eq_getElem?_getD]
 rw [← g0] at b0
 unfold pre isAt
 rw [hl, b0]
 generalize List.drop q s.data.toList = l at hn
 show Lib.hasPrefix l [58] = true ↔ _
 have e58 : ∀ a : UInt8, ((a.toNat : Int) = 58) ↔ (58 : UInt8) = a := fun a => by
  rw [eq_comm (a := (58 : UInt8)), ← UInt8.toNat_inj]
  show _ ↔ a.toNat = 58
  omega
 match l, hn with
 | [], hn => simp only [List.length_nil] at hn; simp [Lib.hasPrefix] <;> omega
 | a :: l, hn =>
  simp only [List.length_cons] at hn
  have hq : q < s.size := by omega
  simp [Lib.hasPrefix, hq, List.getD, e58]
theorem zeroV (w : World) : (zeroValue 55).run Tryz.prog w = .ok .nilIface w := by kernel_rfl
theorem str_size (b : List Int) : (strOfNums b).size = b.length := by simp [strOfNums, ByteArray.size]
def step2 (s : ByteArray) (d : Nat) (q : Nat) (acc : List (ByteArray × T)) : Option (List (ByteArray × T) × Nat) := match strF s q with
 | none => none
 | some (b, r1) => if isAt s (skip s r1) 58 = true then (val s d (skip s (skip s r1 + 1))).map fun x => (acc ++ [(strOfNums b, x.1)], x.2) else none
theorem itG_members (s : ByteArray) (d : Nat) : ∀ (k q : Nat) (acc : List (ByteArray × T)), itG s (step2 s d) 125 k q acc = (membersF s (fun q => val s d q) k q).map fun x => (acc ++ x.1, x.2)
 | 0, q, acc => rfl
 | k + 1, q, acc => by
  rw [itG, membersF]
  unfold step2
  cases hs : strF s q with
  | none => rfl
  | some y =>
   obtain ⟨b, r1⟩ := y
   simp only []
   by_cases hc : isAt s (skip s r1) 58 = true
   ·rw [if_pos hc, if_pos hc]
    cases hv : val s d (skip s (skip s r1 + 1)) with
    | none => rfl
    | some x =>
     obtain ⟨t, r⟩ := x
     simp only [Option.map_some]
     by_cases c1 : isAt s (skip s r) 125 = true
     ·rw [if_pos c1, if_pos c1]; rfl
     ·rw [if_neg c1, if_neg c1]
      by_cases c2 : isAt s (skip s r) 44 = true
      ·rw [if_pos c2, if_pos c2]
       have := itG_members s d k (skip s (skip s r + 1)) (acc ++ [(strOfNums b, t)])
       unfold step2 at this
       rw [this]
       cases membersF s (fun q => val s d q) k (skip s (skip s r + 1)) <;> simp
      ·rw [if_neg c2, if_neg c2]; rfl
   ·rw [if_neg hc, if_neg hc]; rfl
structure Inv2 (g : Nat) (s : ByteArray) (d p B R : Nat) (rg0 tw0 : Bool) (w0 W : World) (q : Nat) (acc : List (ByteArray × T)) : Prop where
 rd : Rdr W g s q (rg0 || bigM bigB acc) (tw0 || twiceM [] acc)
 pq : p ≤ q
 rb : W.heap[R]? = some (.cells #[.pointer (some ⟨g, 0, none⟩)] 95 (0, 0))
 ob : ∃ m n ds, W.heap[B]? = some (.cells #[.map (some m)] 103 (0, 0)) ∧ w0.heap.size ≤ m ∧ n ≤ acc.length ∧ W.ownsMap Tryz.prog 9 Rd m n (encM ds) ∧ VM W (fun k => w0.heap.size ≤ k ∧ k ≠ m ∧ k ≠ B) (normM [] acc) ds
 tch : Tch w0 W (fun k => k = g)
 lim : acc.length ≤ q
 new : w0.heap.size ≤ B ∧ w0.heap.size ≤ R
theorem inv2_put (g : Nat) (s : ByteArray) (d p B R : Nat) (rg0 tw0 : Bool) (w0 W : World) (q : Nat) (acc : List (ByteArray × T)) (m n : Nat) (ds : List (ByteArray × Value)) (k : ByteArray) (t : T) (c : Value) (r : Nat) (w5 w6 : World)
  (hg : g < w0.heap.size) (hrb : W.heap[R]? = some (.cells #[.pointer (some ⟨g, 0, none⟩)] 95 (0, 0))) (hb : W.heap[B]? = some (.cells #[.map (some m)] 103 (0, 0))) (hm0 : w0.heap.size ≤ m) (hn : n ≤ acc.length)
  (hmap : W.ownsMap Tryz.prog 9 Rd m n (encM ds)) (hvm : VM W (fun k => w0.heap.size ≤ k ∧ k ≠ m ∧ k ≠ B) (normM [] acc) ds) (ht0 : Tch w0 W (fun k => k = g)) (hlim : acc.length ≤ q) (hpq : p ≤ q) (hnew : w0.heap.size ≤ B ∧ w0.heap.size ≤ R)
  (ht5 : Tch W w5 (fun k => k = g)) (hr5 : Rdr w5 g s r ((rg0 || bigM bigB acc) || big bigB t) (((tw0 || twiceM [] acc) || twice t) || hasKey (acc.map Prod.fst) k))
  (hv5 : V w5 (fun k => W.heap.size ≤ k) (norm t) c) (hown : w6.ownsMap Tryz.prog 9 Rd m (n + 1) ((encM ds).put (.string k.data.toList) (.held c))) (hg6 : w5.grownBy w6 (some m)) (hqr : q + 1 ≤ r) :
  Inv2 g s d p B R rg0 tw0 w0 w6 r (acc ++ [(k, t)]) := by
 have hml := map_lt hmap
 have hbl := blk_lt hb
 have hrl := blk_lt hrb
 have hgm : g ≠ m := by omega
 have hBm : B ≠ m := fun e => by
  obtain ⟨es, clock, hh, _⟩ := hmap
  rw [← e, hb] at hh
  injection hh with hh
  cases hh
 have hRm : R ≠ m := fun e => by
  obtain ⟨es, clock, hh, _⟩ := hmap
  rw [← e, hrb] at hh
  injection hh with hh
  cases hh
 have e1 := normM_snoc k t acc []
 have e2 := bigM_snoc bigB k t acc
 have e3 := twiceM_snoc k t acc []
 have e4 : (acc ++ [(k, t)]).length = acc.length + 1 := by simp
 have h5 : W.heap.size ≤ w5.heap.size := ht5.kept.1
 rw [List.nil_append] at e3
 refine ⟨?_, by omega, ?_, ⟨m, n + 1, putK k c ds, ?_, hm0, by omega, ?_, ?_⟩, ?_, by omega, hnew⟩
 ·rw [e2, e3]
  simp only [← Bool.or_assoc]
  exact blk_grown hr5 hg6 (fun e => hgm (by injection e))
 ·exact blk_grown (blk_kept hrb ht5.kept (fun e => by omega)) hg6 (fun e => hRm (by injection e))
 ·exact blk_grown (blk_kept hb ht5.kept (fun e => by omega)) hg6 (fun e => hBm (by injection e))
 ·rw [← encM_put]; exact hown
 ·rw [e1]
  refine VM_put k (norm t) c (V_step ?_ ?_ _ _ hv5) (VM_step ?_ ?_ _ _ hvm)
  ·intro k' h1 hk
   exact hg6.block k' hk (fun e => by injection e with e; omega)
  ·intro k' h1 hk
   exact ⟨by omega, by omega, by omega⟩
  ·rintro k' ⟨h1, h2, h3⟩ hk
   rw [hg6.block k' (by omega) (fun e => h2 (by injection e))]
   exact ht5.kept.2 k' hk (by omega)
  ·intro k' h1 hk
   exact h1
 ·exact Tch.grown (Tch.then_ ht0 ht5 (fun k hk => .inl hk)) hg6 (fun k' e => .inr (by injection e with e; omega))
set_option maxRecDepth 100000 in
set_option maxHeartbeats 8000000 in
theorem closure2 (g : Nat) (s : ByteArray) (d p B R : Nat) (rg0 tw0 : Bool) (w0 : World) (hs : s.size ≤ 1048576) (hV : ValAt g s d) (hg : g < w0.heap.size) (hT : Lib.Utf8Tabs 1 2 w0) (hE : EV w0) (hg4 : 4 < g ∧ 2 < g) (hd : s.size < p + 1 + d)
  (W : World) (q : Nat) (acc : List (ByteArray × T)) (h : Inv2 g s d p B R rg0 tw0 w0 W q acc) (hq : q ≤ s.size) (hpq : p + 1 ≤ q) :
  Calls Tryz.prog 132 #[.pointer (some ⟨R, 0, none⟩), .pointer (some ⟨B, 0, none⟩)] W fun e W' =>
   (∀ acc' r, step2 s d q acc = some (acc', r) → e = .returned (.tuple #[]) ∧ Inv2 g s d p B R rg0 tw0 w0 W' r acc') ∧ (step2 s d q acc = none → e = .panicked noForm ∧ Tch w0 W' (fun k => k = g)) := by
 have H := Lib.hid h
 obtain ⟨m, n, ds, hb, hm0, hn, hmap, hvm⟩ := h.ob
 have c0 := blk_cell hb 0
 have c1 := blk_cell h.rb 0
 simp only [List.getElem?_toArray, List.getElem?_cons_zero] at c0 c1
 have HB := Lib.hid hb
 have HMap := Lib.hid hmap
 have HVM := Lib.hid hvm
 have HSI := Lib.hid h.new
 have HLI := Lib.hid h.lim
 have HNM := Lib.hid (show w0.heap.size ≤ m ∧ n ≤ acc.length from ⟨hm0, hn⟩)
 have HVA := Lib.hid hV
 have HTB := Lib.hid hT
 have HEV := Lib.hid hE
 have HGL := Lib.hid hg
 have HDs := Lib.hid hd
 have HR0 := Lib.hid h.rd
 have HRB := Lib.hid h.rb
 have HT0 := Lib.hid h.tch
 have HBg := Lib.hid (show B ≠ g from fun e => by have := h.new.1; omega)
 have HRg := Lib.hid (show R ≠ g from fun e => by have := h.new.2; omega)
 clear h hV hb hmap hvm hT hE hm0 hn hg hd
 have HPQ := Lib.hid hpq
 clear hpq
 go_enter Tryz.func132, Tryz.ntmps132
 go_wp2_with fail
 refine (str g s q _ _ _ HR0.out hq hs (tabs_tch HTB.out HT0.out (by have := hg4.2; omega) (by have := hg4.2; omega)) (by have := hg4.2; omega)).mono ?_
 rintro e w1 ⟨hok, hno, ht1⟩
 have HT1 := Lib.hid ht1
 cases hsf : strF s q with
 | none =>
  obtain ⟨rfl, _⟩ := hno hsf
  have HE : step2 s d q acc = none := by unfold step2; rw [hsf]
  exact ⟨rfl, fun acc' r hh => (by rw [HE] at hh; cases hh), fun _ => ⟨rfl, Tch.then_ HT0.out HT1.out (fun k hk => .inl hk)⟩⟩
 | some y =>
  obtain ⟨b, r1⟩ := y
  obtain ⟨rfl, hr1⟩ := hok b r1 hsf
  have hle1 := strF_le hsf
  have HR1 := Lib.hid hr1
  have HRB1 := Lib.hid (blk_kept HRB.out HT1.out.kept HRg.out)
  have c1' := blk_cell HRB1.out 0
  simp only [List.getElem?_toArray, List.getElem?_cons_zero] at c1'
  clear hok hno ht1 hr1 c0 c1
  go_wp2_with fail
  refine (blanks g s r1 _ _ _ HR1.out (by omega) hs).mono ?_
  rintro e w2 ⟨rfl, hr2, ht2⟩
  have HR2 := Lib.hid hr2
  have HT2 := Lib.hid ht2
  have HRB2 := Lib.hid (blk_kept HRB1.out HT2.out.kept HRg.out)
  have c2' := blk_cell HRB2.out 0
  simp only [List.getElem?_toArray, List.getElem?_cons_zero] at c2'
  clear hr2 ht2 c1'
  have hk2 := runF_le isB s r1
  have HK2 := Lib.hid (show r1 ≤ skip s r1 ∧ skip s r1 ≤ s.size from ⟨hk2.1, hk2.2 (by omega)⟩)
  clear hk2
  go_wp2_with fail
  cases hcc : isAt s (skip s r1) 58 with
  | false =>
   refine (want_no g s (skip s r1) _ _ ⟨#[58]⟩ _ HR2.out HK2.out.2 hs (by rw [pre_c, hcc])).mono ?_
   rintro e w3 ⟨rfl, hb3⟩
   have HE : step2 s d q acc = none := by unfold step2; rw [hsf]; simp only []; rw [hcc]; rfl
   refine ⟨rfl, fun acc' r hh => (by rw [HE] at hh; cases hh), fun _ => ⟨rfl, ?_⟩⟩
   exact Tch.below (Tch.then_ HT0.out (Tch.then_ HT1.out HT2.out (fun k hk => .inl hk)) (fun k hk => .inl hk)) hb3
  | true =>
   refine (want_ok g s (skip s r1) _ _ ⟨#[58]⟩ _ HR2.out HK2.out.2 hs (by rw [pre_c, hcc]) (by decide)).mono ?_
   rintro e w3 ⟨rfl, hr3, ht3⟩
   have HR3 := Lib.hid (show Rdr w3 g s (skip s r1 + 1) _ _ from hr3)
   have HT3 := Lib.hid ht3
   have HRB3 := Lib.hid (blk_kept HRB2.out HT3.out.kept HRg.out)
   have c3' := blk_cell HRB3.out 0
   simp only [List.getElem?_toArray, List.getElem?_cons_zero] at c3'
   clear hr3 ht3 c2'
   have hlt3 := isAt_lt hcc
   have HT03 := Lib.hid (Tch.then_ HT0.out (Tch.then_ HT1.out (Tch.then_ HT2.out HT3.out (fun k hk => .inl hk)) (fun k hk => .inl hk)) (fun k hk => .inl hk))
   have HTW3 := Lib.hid (Tch.then_ HT1.out (Tch.then_ HT2.out HT3.out (fun k hk => .inl hk)) (fun k hk => .inl hk))
   have HV := Lib.hid (HVA.out w3 (skip s r1 + 1) _ _ HR3.out (by omega) (by have := HDs.out; have := HPQ.out; have := HK2.out; omega) (tabs_tch HTB.out HT03.out (by have := hg4.2; omega) (by have := hg4.2; omega)) (EV.tch HEV.out HT03.out (by have := hg4.1; omega)))
   go_wp2_with fail
   refine HV.out.mono ?_
   rintro e w4 ⟨hok4, hno4, ht4⟩
   have HT4 := Lib.hid ht4
   have hbl : b.length ≤ 4 * (1048576 : Nat) := by have := hle1.2.2; omega
   have HL3 := Lib.hid (show q + 2 ≤ r1 ∧ r1 ≤ s.size ∧ skip s r1 < s.size from ⟨hle1.1, hle1.2.1, hlt3.1⟩)
   clear hle1 hlt3
   cases hvv : val s d (skip s (skip s r1 + 1)) with
   | none =>
    obtain rfl := hno4 hvv
    have HE : step2 s d q acc = none := by unfold step2; rw [hsf]; simp only []; rw [hcc, hvv]; rfl
    exact ⟨rfl, fun acc' r hh => (by rw [HE] at hh; cases hh), fun _ => ⟨rfl, Tch.then_ HT03.out HT4.out (fun k hk => .inl hk)⟩⟩
   | some x =>
    obtain ⟨t, r⟩ := x
    obtain ⟨v, rfl, hv4, hr4⟩ := hok4 t r hvv
    obtain ⟨T', x', rfl⟩ := V_iface hv4
    have hvle := val_le s d _ t r hvv
    have HV4 := Lib.hid hv4
    have HR4 := Lib.hid hr4
    have HK4 := Lib.hid (show q + 1 ≤ r ∧ r ≤ s.size from by
     have h1 := runF_le isB s (skip s r1 + 1)
     have h2 := HK2.out
     have h3 := HL3.out
     unfold skip at hvle h1 h2 h3
     omega)
    have HRB4 := Lib.hid (blk_kept HRB3.out HT4.out.kept HRg.out)
    have HTW4 := Lib.hid (Tch.then_ HTW3.out HT4.out (fun k hk => .inl hk))
    have HB4 := Lib.hid (blk_kept HB.out HTW4.out.kept HBg.out)
    have HMap4 := Lib.hid (map_step HMap.out (HTW4.out.kept.2 m (map_lt HMap.out) (fun e => by have := HNM.out.1; have := HGL.out; have e : m = g := e; omega)))
    have c0 := blk_cell HB4.out 0
    have c1 := blk_cell HRB4.out 0
    simp only [List.getElem?_toArray, List.getElem?_cons_zero] at c0 c1
    clear hok4 hno4 ht4 hv4 hr4 c3' hvle HV HVA
    have hkey : keyOf Tryz.prog 9 (.string (strOfNums b)) = some (.string (strOfNums b).data.toList) := Go.WideMaps.keyOf_string_mk Tryz.underlying9 (by rw [str_size]; have := hbl; simp only [maxLen]; omega)
    have hnm : n < maxLen := by have := HNM.out.2; have := HLI.out; have h : (1048576 : Nat) < maxLen := (by decide); omega
    have HE : Hid (step2 s d q acc = some (acc ++ [(strOfNums b, t)], r)) := Lib.hid (by unfold step2; rw [hsf]; simp only []; rw [hcc, hvv]; rfl)
    have hhk : Maps.has (encM ds) (.string (strOfNums b).data.toList) = hasKey (acc.map Prod.fst) (strOfNums b) := by
     rw [encM_has, VM_any _ HVM.out, any_norm]; rfl
    have HHK := Lib.hid hhk
    clear hhk
    cases hhas : Maps.has (encM ds) (.string (strOfNums b).data.toList) with
    | false =>
     go_wp2_with (first | (at_lookup; refine wpList_lookup_own_ok _ rfl _ _ 103 rfl 9 55 (Go.Maps.string_keyed Tryz.underlying9) Tryz.underlying103 Rd (zeroV _) (.held .nilIface) [] rfl m n (encM ds) rfl HMap4.out _ _ rfl hkey ?_; intro v5 ps5 hv5; rw [hhas]) | (at_mapUpdate; refine wpList_mapUpdate_own _ rfl _ _ _ 103 rfl 9 55 (Go.Maps.string_keyed Tryz.underlying9) Tryz.underlying103 Rd m n (encM ds) rfl HMap4.out hnm _ _ (.string (strOfNums b).data.toList) rfl rfl hkey (.held (.iface T' x')) [] rfl ?_; intro w6 hown6 hg6))
     go_end0
     have HEo := HE.out
     have hkk := HHK.out
     rw [hhas] at hkk
     refine ⟨fun acc' r' hh => ?_, fun hh => by rw [HEo] at hh; cases hh⟩
     rw [HEo] at hh
     injection hh with hh
     injection hh with hh1 hh2
     subst hh1
     subst hh2
     exact ⟨rfl, inv2_put g s d p B R rg0 tw0 w0 W q acc m n ds (strOfNums b) t _ r w4 w6 HGL.out HRB.out HB.out HNM.out.1 HNM.out.2 HMap.out HVM.out HT0.out HLI.out (by have := HPQ.out; omega) HSI.out HTW4.out (by rw [← hkk, Bool.or_false]; exact HR4.out) (V_mono HV4.out (fun k hk => by have := HTW3.out.kept.1; omega)) hown6 hg6 HK4.out.1⟩
    | true =>
     have HR5 := Lib.hid (Rdr.twin HR4.out)
     have HT5 := Lib.hid (Tch.setCell HTW4.out (p := ⟨g, 3, none⟩) (.inl rfl) (.bool true))
     have HMap5 := Lib.hid (map_step (w1 := w4.setCell ⟨g, 3, none⟩ (.bool true)) HMap4.out (Below.heap_setCell _ _ _ _ (fun e => by have := HNM.out.1; have := HGL.out; have e : m = g := e; omega)))
     have HRB5 := Lib.hid (blk_far HRB4.out (p := ⟨g, 3, none⟩) HRg.out (.bool true))
     have HB5 := Lib.hid (blk_far HB4.out (p := ⟨g, 3, none⟩) HBg.out (.bool true))
     have HV5 := Lib.hid (V_tch HV4.out (Tch.setCell (Tch.refl w4 (fun k => k = g)) (p := ⟨g, 3, none⟩) (.inl rfl) (.bool true)) (fun k hk e => by have := HTW3.out.kept.1; have := HGL.out; have := HT0.out.kept.1; omega))
     have c05 := blk_cell HB5.out 0
     simp only [List.getElem?_toArray, List.getElem?_cons_zero] at c05
     have g3 := blk_cell HR4.out 3
     have f3 := blk_frozen HR4.out 3
     go_wp2_with (first | (at_lookup; refine wpList_lookup_own_ok _ rfl _ _ 103 rfl 9 55 (Go.Maps.string_keyed Tryz.underlying9) Tryz.underlying103 Rd (zeroV _) (.held .nilIface) [] rfl m n (encM ds) rfl HMap4.out _ _ rfl hkey ?_; intro v5 ps5 hv5; rw [hhas]) | (at_mapUpdate; refine wpList_mapUpdate_own _ rfl _ _ _ 103 rfl 9 55 (Go.Maps.string_keyed Tryz.underlying9) Tryz.underlying103 Rd m n (encM ds) rfl HMap5.out hnm _ _ (.string (strOfNums b).data.toList) rfl rfl hkey (.held (.iface T' x')) [] rfl ?_; intro w6 hown6 hg6))
     go_end0
     have HEo := HE.out
     have hkk := HHK.out
     rw [hhas] at hkk
     refine ⟨fun acc' r' hh => ?_, fun hh => by rw [HEo] at hh; cases hh⟩
     rw [HEo] at hh
     injection hh with hh
     injection hh with hh1 hh2
     subst hh1
     subst hh2
     exact ⟨rfl, inv2_put g s d p B R rg0 tw0 w0 W q acc m n ds (strOfNums b) t _ r _ w6 HGL.out HRB.out HB.out HNM.out.1 HNM.out.2 HMap.out HVM.out HT0.out HLI.out (by have := HPQ.out; omega) HSI.out HT5.out (by rw [← hkk, Bool.or_true]; exact HR5.out) (V_mono HV5.out (fun k hk => by have := HTW3.out.kept.1; omega)) hown6 hg6 HK4.out.1⟩
end Go.Proofs.YtndagnkhjlgjgaaGreatDoor.Read
