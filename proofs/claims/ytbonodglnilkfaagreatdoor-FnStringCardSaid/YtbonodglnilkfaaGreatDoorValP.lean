/- The reader of JSON: val by the first byte; numbers' range. Plain. -/
import Derived.Test.YtbonodglnilkfaaGreatDoorMember
namespace Go.Proofs.YtbonodglnilkfaaGreatDoor.Read
open Go Go.RowKit Go.Proofs.YtbonodglnilkfaaGreatDoorW.PrintWords Go.Proofs.YtbonodglnilkfaaGreatDoor.Str Go.Proofs.YtbonodglnilkfaaGreatDoor.Tree Go.Proofs.YtbonodglnilkfaaGreatDoor.Val
set_option linter.unusedVariables false
set_option linter.unusedSimpArgs false
theorem isAt_of {s : ByteArray} {p : Nat} {c : Int} (h1 : p < s.size) (h2 : bt s (p : Int) = c) : isAt s p c = true := by unfold isAt; simp [h1, h2]
theorem isAt_no {s : ByteArray} {p : Nat} {c : Int} (h2 : bt s (p : Int) ≠ c) : isAt s p c = false := by unfold isAt; simp [h2]
theorem isAt_end {s : ByteArray} {p : Nat} {c : Int} (h : s.size ≤ p) : isAt s p c = false := by unfold isAt; simp; omega
theorem isW_first {s : ByteArray} {p : Nat} {a : UInt8} {r : Array UInt8} (h : isW s p ⟨#[a] ++ r⟩ = true) : p < s.size ∧ bt s (p : Int) = (a.toNat : Int) := by
 have hle := isW_le h
 unfold isW at h
 simp only [Bool.and_eq_true, decide_eq_true_eq] at h
 have hz : 1 ≤ (⟨#[a] ++ r⟩ : ByteArray).size := by show 1 ≤ (#[a] ++ r).size; simp
 refine ⟨by omega, ?_⟩
 have hp : p < s.size := by omega
 have e : ((s.extract p (p + (⟨#[a] ++ r⟩ : ByteArray).size)).data.toList)[0]? = some a := by
  rw [h.2]; simp
 have hq := cut_get s p (p + (⟨#[a] ++ r⟩ : ByteArray).size) 0 hle (by omega)
 rw [hq] at e
 injection e with e
 have e' : s.data.toList[p]'(by rw [Array.length_toList]; exact hp) = a := e
 rw [bt_list s p hp, e']
theorem isW_not {s : ByteArray} {p : Nat} {a : UInt8} {r : Array UInt8} (h : bt s (p : Int) ≠ (a.toNat : Int)) : isW s p ⟨#[a] ++ r⟩ = false := by
 cases hc : isW s p ⟨#[a] ++ r⟩ with
 | false => rfl
 | true => exact absurd (isW_first hc).2 h
theorem noNull {s : ByteArray} {p : Nat} (h : bt s (p : Int) ≠ 110) : isW s p wNull = false := isW_not (a := 110) (r := #[117, 108, 108]) h
theorem noTrue {s : ByteArray} {p : Nat} (h : bt s (p : Int) ≠ 116) : isW s p wTrue = false := isW_not (a := 116) (r := #[114, 117, 101]) h
theorem noFalse {s : ByteArray} {p : Nat} (h : bt s (p : Int) ≠ 102) : isW s p wFalse = false := isW_not (a := 102) (r := #[97, 108, 115, 101]) h
theorem numF_no {s : ByteArray} {p : Nat} (h1 : bt s (p : Int) ≠ 45) (h2 : isD (bt s (p : Int)) = false) : numF s p = none := by
 unfold numF
 rw [if_neg (by rw [isAt_no h1]; decide), if_neg (by rw [h2]; simp)]
theorem isD_out {c : Int} (h : c < 48 ∨ 57 < c) : isD c = false := by unfold isD; simp; omega
theorem val_end (s : ByteArray) (d p : Nat) (h : s.size ≤ p) : val s (d + 1) p = none := by
 have w1 : ∀ x : ByteArray, 1 ≤ x.size → isW s p x = false := fun x hx => by unfold isW; simp; omega
 rw [val, isAt_end h, isAt_end h, isAt_end h, w1 _ (by decide), w1 _ (by decide), w1 _ (by decide)]
 unfold numF
 rw [isAt_end h]
 simp
 omega
theorem val_n (s : ByteArray) (d p : Nat) (h : bt s (p : Int) = 110) : val s (d + 1) p = if isW s p wNull = true then some (.nul, p + 4) else none := by
 rw [val, isAt_no (s := s) (p := p) (c := 91) (by omega), isAt_no (s := s) (p := p) (c := 123) (by omega), isAt_no (s := s) (p := p) (c := 34) (by omega), noTrue (s := s) (p := p) (by omega), noFalse (s := s) (p := p) (by omega), numF_no (s := s) (p := p) (by omega) (isD_out (by omega))]
 simp
theorem val_t (s : ByteArray) (d p : Nat) (h : bt s (p : Int) = 116) : val s (d + 1) p = if isW s p wTrue = true then some (.tru, p + 4) else none := by
 rw [val, isAt_no (s := s) (p := p) (c := 91) (by omega), isAt_no (s := s) (p := p) (c := 123) (by omega), isAt_no (s := s) (p := p) (c := 34) (by omega), noNull (s := s) (p := p) (by omega), noFalse (s := s) (p := p) (by omega), numF_no (s := s) (p := p) (by omega) (isD_out (by omega))]
 simp
theorem val_f (s : ByteArray) (d p : Nat) (h : bt s (p : Int) = 102) : val s (d + 1) p = if isW s p wFalse = true then some (.fls, p + 5) else none := by
 rw [val, isAt_no (s := s) (p := p) (c := 91) (by omega), isAt_no (s := s) (p := p) (c := 123) (by omega), isAt_no (s := s) (p := p) (c := 34) (by omega), noNull (s := s) (p := p) (by omega), noTrue (s := s) (p := p) (by omega), numF_no (s := s) (p := p) (by omega) (isD_out (by omega))]
 simp
theorem val_q (s : ByteArray) (d p : Nat) (hp : p < s.size) (h : bt s (p : Int) = 34) : val s (d + 1) p = (strF s p).map fun x => (.str (strOfNums x.1), x.2) := by
 rw [val, isAt_no (s := s) (p := p) (c := 91) (by omega), isAt_no (s := s) (p := p) (c := 123) (by omega), isAt_of hp h]
 simp
theorem val_num (s : ByteArray) (d p : Nat) (h1 : bt s (p : Int) ≠ 110) (h2 : bt s (p : Int) ≠ 116) (h3 : bt s (p : Int) ≠ 102) (h4 : bt s (p : Int) ≠ 34) (h5 : bt s (p : Int) ≠ 91) (h6 : bt s (p : Int) ≠ 123) :
  val s (d + 1) p = (numF s p).map fun q => (.num (s.extract p q), q) := by
 rw [val, isAt_no h5, isAt_no h6, isAt_no h4, noNull h1, noTrue h2, noFalse h3]
 simp
theorem val_arr (s : ByteArray) (d p : Nat) (hp : p < s.size) (h : bt s (p : Int) = 91) : val s (d + 1) p = (itF s (step1 s d) 93 p []).map fun x => (.arr x.1, x.2) := by
 rw [val, isAt_of hp h, if_pos rfl]
 unfold itF
 by_cases c : isAt s (skip s (p + 1)) 93 = true
 ·rw [if_pos c, if_pos c]; rfl
 ·rw [if_neg c, if_neg c, itG_items s d _ _ _ (skip_idem s _)]
  cases itemsF s (fun q => val s d q) s.size (skip s (p + 1)) <;> simp
theorem val_obj (s : ByteArray) (d p : Nat) (hp : p < s.size) (h : bt s (p : Int) = 123) : val s (d + 1) p = (itF s (step2 s d) 125 p []).map fun x => (.obj x.1, x.2) := by
 rw [val, isAt_no (s := s) (p := p) (c := 91) (by omega), isAt_of hp h]
 simp only [Bool.false_eq_true, if_false, if_true]
 unfold itF
 by_cases c : isAt s (skip s (p + 1)) 125 = true
 ·rw [if_pos c, if_pos c]; rfl
 ·rw [if_neg c, if_neg c, itG_members s d]
  cases membersF s (fun q => val s d q) s.size (skip s (p + 1)) <;> simp
theorem intSat_range (l : List UInt8) : -9223372036854775808 ≤ Lib.intSat 64 l ∧ Lib.intSat 64 l ≤ 9223372036854775807 := by
 unfold Lib.intSat
 have e : (2 ^ (64 - 1) : Nat) = 9223372036854775808 := by decide
 rw [e]
 by_cases h : l.head?.map (·.toNat) = some 45
 ·rw [if_pos h]; omega
 ·rw [if_neg h]; omega
theorem parse_range {l : List UInt8} {v : Int} (h : Lib.parseIntB 64 l = .ok v) : -9223372036854775808 ≤ v ∧ v ≤ 9223372036854775807 := by
 match l with
 | [] => simp [Lib.parseIntB] at h
 | c :: r =>
  unfold Lib.parseIntB at h
  have e : (2 ^ (64 - 1) : Nat) = 9223372036854775808 := by decide
  rw [e] at h
  simp only [] at h
  generalize Lib.parseUintB 64 (if c.toNat = 43 ∨ c.toNat = 45 then r else c :: r) = x at h
  cases x with
  | range => cases h
  | ok u =>
   simp only [] at h
   by_cases c1 : ¬ c.toNat = 45 ∧ 9223372036854775808 ≤ u
   ·rw [if_pos c1] at h; cases h
   ·rw [if_neg c1] at h
    by_cases c2 : c.toNat = 45 ∧ 9223372036854775808 < u
    ·rw [if_pos c2] at h; cases h
    ·rw [if_neg c2] at h
     injection h with h
     subst h
     by_cases c3 : c.toNat = 45
     ·rw [if_pos c3]; omega
     ·rw [if_neg c3]; omega
  | _ => cases h
theorem numV_range (x : ByteArray) : -9223372036854775808 ≤ numV x ∧ numV x ≤ 9223372036854775807 := by
 unfold numV
 cases h : Lib.parseIntB 64 x.data.toList with
 | ok v => exact parse_range h
 | range => exact intSat_range _
 | _ => exact ⟨(by decide : (-9223372036854775808 : Int) ≤ 0), (by decide : (0 : Int) ≤ 9223372036854775807)⟩
end Go.Proofs.YtbonodglnilkfaaGreatDoor.Read
namespace Go.Proofs.YtbonodglnilkfaaGreatDoor.Read
open Go Go.RowKit Go.Proofs.YtbonodglnilkfaaGreatDoorW.PrintWords Go.Proofs.YtbonodglnilkfaaGreatDoorW.PrintLast Go.Proofs.YtbonodglnilkfaaGreatDoor.Str Go.Proofs.YtbonodglnilkfaaGreatDoor.Tchs Go.Proofs.YtbonodglnilkfaaGreatDoor.Tree Go.Proofs.YtbonodglnilkfaaGreatDoor.Val
set_option linter.unusedVariables false
set_option linter.unusedSimpArgs false
theorem Rdr_inj {w : World} {g : Nat} {s : ByteArray} {p p2 : Nat} {rg tw rg2 tw2 : Bool} (h : Rdr w g s p rg tw) (k : Rdr w g s p2 rg2 tw2) : rg = rg2 ∧ tw = tw2 := by
 unfold Rdr at h k
 rw [h] at k
 simp only [Option.some.injEq, Obj.cells.injEq, Array.mk.injEq, List.cons.injEq, Value.bool.injEq] at k
 exact ⟨k.1.2.2.1, k.1.2.2.2.1⟩
theorem step1_le {s : ByteArray} {d q : Nat} {acc acc' : List T} {r : Nat} (h : step1 s d q acc = some (acc', r)) : q + 1 ≤ r ∧ r ≤ s.size := by
 unfold step1 at h
 cases hv : val s d (skip s q) with
 | none => rw [hv] at h; cases h
 | some x =>
  obtain ⟨t, r1⟩ := x
  rw [hv] at h
  injection h with h
  injection h with _ h
  have h1 := val_le s d _ t r1 hv
  have h2 := runF_le isB s q
  unfold skip at h1
  omega
theorem step2_le {s : ByteArray} {d q : Nat} {acc acc' : List (ByteArray × T)} {r : Nat} (h : step2 s d q acc = some (acc', r)) : q + 1 ≤ r ∧ r ≤ s.size := by
 unfold step2 at h
 cases hs : strF s q with
 | none => rw [hs] at h; cases h
 | some y =>
  obtain ⟨b, r1⟩ := y
  rw [hs] at h
  simp only [] at h
  by_cases hc : isAt s (skip s r1) 58 = true
  ·rw [if_pos hc] at h
   cases hv : val s d (skip s (skip s r1 + 1)) with
   | none => rw [hv] at h; cases h
   | some x =>
    obtain ⟨t, r2⟩ := x
    rw [hv] at h
    injection h with h
    injection h with _ h
    have h1 := val_le s d _ t r2 hv
    have h2 := runF_le isB s r1
    have h3 := runF_le isB s (skip s r1 + 1)
    have h4 := strF_le hs
    unfold skip at h1 h3
    omega
  ·rw [if_neg hc] at h; cases h
theorem arr_items (g : Nat) (s : ByteArray) (hs : s.size ≤ 1048576) (hg4 : 5 < g ∧ 1 < g) (d : Nat) (ih : ValAt g s d) (q B R : Nat) (rg tw : Bool) (w W : World) (hg : g < w.heap.size) (hT : Lib.Utf8Tabs 0 1 w) (hE : EV w)
  (hd : s.size < q + 1 + d) (h : Inv1 g s d q B R rg tw w W q []) (hq : q < s.size) :
  Calls Tryz.prog 86 #[.pointer (some ⟨g, 0, none⟩), .int .u8 93, .func (.func 87) #[] #[.pointer (some ⟨B, 0, none⟩), .pointer (some ⟨R, 0, none⟩)]] W fun e w' =>
   (∀ l r, itF s (step1 s d) 93 q [] = some (l, r) → e = .returned (.tuple #[]) ∧ Inv1 g s d q B R rg tw w w' r l) ∧ (itF s (step1 s d) 93 q [] = none → e = .panicked noForm ∧ Tch w w' (fun k => k = g)) := by
 refine items1 g s hs 93 q _ (fun W r acc => Inv1 g s d q B R rg tw w W r acc) (fun W => Tch w W (fun k => k = g)) (step1 s d) (fun W r acc hI => ⟨_, _, hI.rd⟩) (fun W r acc hI => hI.tch) ?_ (fun a b c r hh => step1_le hh) (fun W r acc hI h1 h2 => closure1 g s d q B R rg tw w hs ih hg hT hE hg4 hd W r acc hI h1 h2) (fun W W' h1 h2 => Tch.then_ h1 h2 (fun k hk => .inl hk)) W [] h hq (by decide)
 intro W1 W2 q1 r1 acc rg1 tw1 hle hI hr1 hr2 ht
 obtain ⟨e1, e2⟩ := Rdr_inj hr1 hI.rd
 subst e1
 subst e2
 obtain ⟨u, cs, hb, hrow, hvl⟩ := hI.ob
 refine ⟨hr2, by have := hI.pq; omega, blk_kept hI.rb ht.kept (fun e => by have := hI.new.2; omega), ⟨u, cs, blk_kept hb ht.kept (fun e => by have := hI.new.1; omega), own_tch hrow ht (fun k hk e => by have e : k = g := e; omega), VL_step ?_ (fun k hk _ => hk) _ _ hvl⟩, Tch.then_ hI.tch ht (fun k hk => .inl hk), by have := hI.lim; omega, hI.new⟩
 rintro k ⟨h1, _, _⟩ hk
 exact ht.kept.2 k hk (fun e => by have e : k = g := e; omega)
theorem obj_items (g : Nat) (s : ByteArray) (hs : s.size ≤ 1048576) (hg4 : 5 < g ∧ 1 < g) (d : Nat) (ih : ValAt g s d) (q B R : Nat) (rg tw : Bool) (w W : World) (hg : g < w.heap.size) (hT : Lib.Utf8Tabs 0 1 w) (hE : EV w)
  (hd : s.size < q + 1 + d) (h : Inv2 g s d q B R rg tw w W q []) (hq : q < s.size) :
  Calls Tryz.prog 86 #[.pointer (some ⟨g, 0, none⟩), .int .u8 125, .func (.func 88) #[] #[.pointer (some ⟨R, 0, none⟩), .pointer (some ⟨B, 0, none⟩)]] W fun e w' =>
   (∀ l r, itF s (step2 s d) 125 q [] = some (l, r) → e = .returned (.tuple #[]) ∧ Inv2 g s d q B R rg tw w w' r l) ∧ (itF s (step2 s d) 125 q [] = none → e = .panicked noForm ∧ Tch w w' (fun k => k = g)) := by
 refine items2 g s hs 125 q _ (fun W r acc => Inv2 g s d q B R rg tw w W r acc) (fun W => Tch w W (fun k => k = g)) (step2 s d) (fun W r acc hI => ⟨_, _, hI.rd⟩) (fun W r acc hI => hI.tch) ?_ (fun a b c r hh => step2_le hh) (fun W r acc hI h1 h2 => closure2 g s d q B R rg tw w hs ih hg hT hE hg4 hd W r acc hI h1 h2) (fun W W' h1 h2 => Tch.then_ h1 h2 (fun k hk => .inl hk)) W [] h hq (by decide)
 intro W1 W2 q1 r1 acc rg1 tw1 hle hI hr1 hr2 ht
 obtain ⟨e1, e2⟩ := Rdr_inj hr1 hI.rd
 subst e1
 subst e2
 obtain ⟨m, n, ds, hb, hm, hn, hmap, hvm⟩ := hI.ob
 refine ⟨hr2, by have := hI.pq; omega, blk_kept hI.rb ht.kept (fun e => by have := hI.new.2; omega), ⟨m, n, ds, blk_kept hb ht.kept (fun e => by have := hI.new.1; omega), hm, hn, map_step hmap (ht.kept.2 m (map_lt hmap) (fun e => by have e : m = g := e; omega)), VM_step ?_ (fun k hk _ => hk) _ _ hvm⟩, Tch.then_ hI.tch ht (fun k hk => .inl hk), by have := hI.lim; omega, hI.new⟩
 rintro k ⟨h1, _, _⟩ hk
 exact ht.kept.2 k hk (fun e => by have e : k = g := e; omega)
end Go.Proofs.YtbonodglnilkfaaGreatDoor.Read
