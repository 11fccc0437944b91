/- The reader of JSON: contracts by hand of peek, want. -/
import Derived.Test.YtndagnkhjlgjgaaGreatDoorMost
import Derived.Test.YtndagnkhjlgjgaaGreatDoorProg
import Derived.Test.YtndagnkhjlgjgaaGreatDoorShelf
import Derived.Deep.QuietTactic
import Derived.BigQuiet
import Derived.RegionTactic
import Derived.Outline
import Derived.WalkLawsBesides
import Derived.Lib.Strings
import Derived.Deep.RegionHeld3
namespace Go.Proofs.YtndagnkhjlgjgaaGreatDoor.Read
open Go Go.RowKit YtndagnkhjlgjgaaGreatDoorW.PrintWords Str Tchs
set_option linter.unusedVariables false
set_option linter.unusedSimpArgs false
def Rdr (w : World) (g : Nat) (s : ByteArray) (p : Nat) (rg tw : Bool) : Prop := w.heap[g]? = some (.cells #[.string s, .int .i64 (p : Int), .bool rg, .bool tw] 99 (0, 0))
abbrev noForm : List PanicEntry := [{ v := .iface 151 (.agg #[]), recovered := false }]
theorem Rdr.at_ {w : World} {g : Nat} {s : ByteArray} {p : Nat} {rg tw : Bool} (h : Rdr w g s p rg tw) : w.cell? ⟨g, 0, none⟩ = some (.string s) ∧ w.cell? ⟨g, 1, none⟩ = some (.int .i64 (p : Int)) ∧ w.frozen? ⟨g, 1, none⟩ = false := ⟨blk_cell h 0, blk_cell h 1, blk_frozen h 1⟩
theorem Rdr.below {w w1 : World} {g : Nat} {s : ByteArray} {p : Nat} {rg tw : Bool} (h : Rdr w g s p rg tw) (hb : Below w.heap.size w w1) : Rdr w1 g s p rg tw := blk_below h hb
theorem Rdr.set {w : World} {g : Nat} {s : ByteArray} {p : Nat} {rg tw : Bool} (h : Rdr w g s p rg tw) (q : Int) (n : Nat) (hq : q = (n : Int)) : Rdr (w.setCell ⟨g, 1, none⟩ (.int .i64 q)) g s n rg tw := by subst hq; exact blk_set h 1 _
theorem Rdr.kept {w w1 : World} {g : Nat} {s : ByteArray} {p : Nat} {rg tw : Bool} {S : Nat → Prop} (h : Rdr w g s p rg tw) (hk : Kept w w1 S) (hs : ¬ S g) : Rdr w1 g s p rg tw := blk_kept h hk hs
theorem Rdr.drew {w : World} {g : Nat} {s : ByteArray} {p : Nat} {rg tw : Bool} (h : Rdr w g s p rg tw) : Rdr w.drew g s p rg tw := h
theorem Rdr.drewN {w : World} {g : Nat} {s : ByteArray} {p : Nat} {rg tw : Bool} (h : Rdr w g s p rg tw) (n : Nat) : Rdr (w.drewN n) g s p rg tw := h
theorem Rdr.lt {w : World} {g : Nat} {s : ByteArray} {p : Nat} {rg tw : Bool} (h : Rdr w g s p rg tw) : g < w.heap.size := blk_lt h
set_option maxRecDepth 100000 in
set_option maxHeartbeats 4000000 in
theorem peek_ok (g : Nat) (s : ByteArray) (p : Nat) (rg tw : Bool) (w : World) (h : Rdr w g s p rg tw) (hp : p < s.size) (hs : s.size ≤ 1048576) :
  Calls Tryz.prog 127 #[.pointer (some ⟨g, 0, none⟩)] w fun e w' => e = .returned (.int .u8 (bt s (p : Int))) ∧ Below w.heap.size w w' := by
 obtain ⟨h0, h1, _⟩ := h.at_
 have hge : decide ((s.size : Int) ≤ (p : Int)) = false := decide_eq_false (by omega)
 have hp0 : (0 : Int) ≤ (p : Int) := by omega
 have hp1 : (p : Int) < (s.size : Int) := by omega
 have hbt : bt s (p : Int) = ((s[p]'hp).toNat : Int) := by simp [bt, hp]
 go_enter Tryz.func127, Tryz.ntmps127
 go_wp2_with fail
 go_quiet (fail)
 go_wp2_with fail
 go_quiet (fail)
 go_wp2_with fail
 go_ret
 refine ⟨?_, ?_⟩
 ·rw [hbt]; rfl
 ·repeat (first | exact Below.refl _ _ | apply pw_below_drewN | apply below_drew)
set_option maxRecDepth 100000 in
set_option maxHeartbeats 4000000 in
theorem peek_no (g : Nat) (s : ByteArray) (p : Nat) (rg tw : Bool) (w : World) (h : Rdr w g s p rg tw) (hp : s.size ≤ p) (hs : s.size ≤ 1048576) :
  Calls Tryz.prog 127 #[.pointer (some ⟨g, 0, none⟩)] w fun e w' => e = .panicked noForm ∧ Below w.heap.size w w' := by
 obtain ⟨h0, h1, _⟩ := h.at_
 have hge : decide ((s.size : Int) ≤ (p : Int)) = true := decide_eq_true (by omega)
 go_enter Tryz.func127, Tryz.ntmps127
 go_wp2_with fail
 go_quiet (fail)
 go_wp2_with fail
 refine ⟨rfl, rfl, ?_⟩
 repeat (first | exact Below.refl _ _ | apply pw_below_drewN | apply below_drew)
def pre (s : ByteArray) (p : Nat) (x : ByteArray) : Bool := Lib.hasPrefix (List.take (s.size - p) (List.drop p s.data.toList)) x.data.toList
set_option maxRecDepth 100000 in
set_option maxHeartbeats 4000000 in
theorem want_ok (g : Nat) (s : ByteArray) (p : Nat) (rg tw : Bool) (x : ByteArray) (w : World) (h : Rdr w g s p rg tw) (hp : p ≤ s.size) (hs : s.size ≤ 1048576) (hx : pre s p x = true) (hxs : x.size ≤ 100) :
  Calls Tryz.prog 128 #[.pointer (some ⟨g, 0, none⟩), .string x] w fun e w' => e = .returned (.tuple #[]) ∧ Rdr w' g s (p + x.size) rg tw ∧ Tch w w' (fun k => k = g) := by
 obtain ⟨h0, h1, hf⟩ := h.at_
 have H := Lib.hid h
 unfold pre at hx
 clear h
 have hp0 : (0 : Int) ≤ (p : Int) := by omega
 have hp1 : (p : Int) ≤ (s.size : Int) := by omega
 have hp2 : (s.size : Int) ≤ (s.size : Int) := by omega
 go_enter Tryz.func128, Tryz.ntmps128
 go_wp2_with fail
 go_quiet ((go_at_call 164; refine Calls.quiet_of_same (Tryz.strings_HasPrefix _ _ _)))
 go_wp2_with fail
 go_end0
 exact ⟨rfl, Rdr.set (H.out.drewN _) _ _ (by simp), Tch.setCell ((Tch.refl w (fun k => k = g)).drewN _) (p := ⟨g, 1, none⟩) (.inl rfl) _⟩
set_option maxRecDepth 100000 in
set_option maxHeartbeats 4000000 in
theorem want_no (g : Nat) (s : ByteArray) (p : Nat) (rg tw : Bool) (x : ByteArray) (w : World) (h : Rdr w g s p rg tw) (hp : p ≤ s.size) (hs : s.size ≤ 1048576) (hx : pre s p x = false) :
  Calls Tryz.prog 128 #[.pointer (some ⟨g, 0, none⟩), .string x] w fun e w' => e = .panicked noForm ∧ Below w.heap.size w w' := by
 obtain ⟨h0, h1, hf⟩ := h.at_
 unfold pre at hx
 clear h
 have hp0 : (0 : Int) ≤ (p : Int) := by omega
 have hp1 : (p : Int) ≤ (s.size : Int) := by omega
 have hp2 : (s.size : Int) ≤ (s.size : Int) := by omega
 go_enter Tryz.func128, Tryz.ntmps128
 go_wp2_with fail
 go_quiet ((go_at_call 164; refine Calls.quiet_of_same (Tryz.strings_HasPrefix _ _ _)))
 go_wp2_with fail
 refine ⟨rfl, rfl, ?_⟩
 repeat (first | exact Below.refl _ _ | apply pw_below_drewN | apply below_drew)
end Go.Proofs.YtndagnkhjlgjgaaGreatDoor.Read
namespace Go.Proofs.YtndagnkhjlgjgaaGreatDoor.Read
open Go Go.RowKit YtndagnkhjlgjgaaGreatDoorW.PrintWords Str Tchs Tree
set_option linter.unusedVariables false
set_option linter.unusedSimpArgs false
def ixb (c : Int) : Int := Lib.indexByte [32, 9, 10, 13] c.toNat.toUInt8
theorem ixb_tab : ∀ n : Fin 256, (0 ≤ ixb (n.1 : Int) ↔ isB (n.1 : Int) = true) := by decide +kernel
theorem ixb_is (c : Int) (h0 : 0 ≤ c) (h1 : c ≤ 255) : 0 ≤ ixb c ↔ isB c = true := by
 have h := ixb_tab ⟨c.toNat, by omega⟩
 simpa [Int.toNat_of_nonneg h0] using h
theorem index_blank (c : Int) (w : World) : Calls Tryz.prog 134 #[.string ⟨#[32, 9, 10, 13]⟩, .int .u8 c] w fun e w' => e = .returned (.int .i64 (ixb c)) ∧ w' = w := Tryz.strings_IndexByte _ c w
def posAt (w : World) (g : Nat) : Nat := match w.cell? ⟨g, 1, none⟩ with | some (.int _ a) => a.toNat | _ => 0
theorem posAt_is {w : World} {g : Nat} {s : ByteArray} {p : Nat} {rg tw : Bool} (h : Rdr w g s p rg tw) : posAt w g = p := by
 unfold posAt
 rw [h.at_.2.1]
 simp
set_option maxRecDepth 100000 in
set_option maxHeartbeats 4000000 in
theorem blanks (g : Nat) (s : ByteArray) (p : Nat) (rg tw : Bool) (w : World) (h : Rdr w g s p rg tw) (hp : p ≤ s.size) (hs : s.size ≤ 1048576) :
  Calls Tryz.prog 103 #[.pointer (some ⟨g, 0, none⟩)] w fun e w' => e = .returned (.tuple #[]) ∧ Rdr w' g s (skip s p) rg tw ∧ Tch w w' (fun k => k = g) := by
 have H := Lib.hid h
 clear h
 go_enter Tryz.func103, Tryz.ntmps103
 go_wp2_with fail
 go_loopw [] (fun wr => ∃ q : Nat, Hid (q ≤ s.size ∧ skip s q = skip s p) ∧ Hid (Rdr wr g s q rg tw) ∧ Hid (Tch w wr (fun k => k = g))) (fun wr => s.size - posAt wr g)
 case atStart => exact ⟨p, Lib.hid ⟨hp, rfl⟩, H, Lib.hid (Tch.refl w _)⟩
 case round =>
  clear H
  obtain ⟨q, HI, HR, HT⟩ := hrel
  obtain ⟨h0, h1, hf⟩ := HR.out.at_
  obtain ⟨hq, hsk⟩ := HI.out
  by_cases hi : (q : Int) < (s.size : Int)
  ·have d1 : decide ((q : Int) < (s.size : Int)) = true := decide_eq_true hi
   have hpi : q < s.size := by omega
   have hb0 : (0 : Int) ≤ (q : Int) := by omega
   have hbt : bt s (q : Int) = ((s[q]'hpi).toNat : Int) := by simp [bt, hpi]
   by_cases hb : isB (bt s (q : Int)) = true
   ·have d2 : decide (0 ≤ ixb ((s[q]'hpi).toNat : Int)) = true := decide_eq_true (by rw [← hbt]; exact (ixb_is _ (bt_range _ _).1 (bt_range _ _).2).2 hb)
    have HS := Lib.hid (show skip s (q + 1) = skip s p from by
     rw [← hsk]
     unfold skip
     conv => rhs; rw [runF_at, if_pos hpi, if_pos hb])
    clear hsk
    go_wp2_with fail
    go_quiet ((go_at_call 134; refine Calls.quiet_of_same (index_blank _ _)))
    have e1 : wrap64 ((q : Int) + 1) = ((q + 1 : Nat) : Int) := by unfold wrap64; omega
    go_wp2_with fail
    go_roundw
    case rel => exact ⟨q + 1, Lib.hid ⟨by omega, HS.out⟩, Lib.hid (Rdr.set (HR.out.drewN _) _ _ (by simp)), Lib.hid (Tch.setCell (HT.out.drewN _) (p := ⟨g, 1, none⟩) (.inl rfl) _)⟩
    case measure =>
     rw [posAt_is HR.out, posAt_is (Rdr.set (HR.out.drewN _) _ (q + 1) (by simp))]
     omega
   ·have d2 : decide (0 ≤ ixb ((s[q]'hpi).toNat : Int)) = false := decide_eq_false (by rw [← hbt]; exact fun h => hb ((ixb_is _ (bt_range _ _).1 (bt_range _ _).2).1 h))
    have HS := Lib.hid (show q = skip s p from by
     rw [← hsk]
     unfold skip
     rw [runF_at, if_pos hpi, if_neg hb])
    clear hsk
    go_wp2_with fail
    go_quiet ((go_at_call 134; refine Calls.quiet_of_same (index_blank _ _)))
    go_wp2_with fail
    go_end0
    exact ⟨rfl, by rw [← HS.out]; exact HR.out.drewN _, HT.out.drewN _⟩
  ·have d1 : decide ((q : Int) < (s.size : Int)) = false := decide_eq_false hi
   have d1n : decide (q < s.size) = false := decide_eq_false (by omega)
   have HS := Lib.hid (show q = skip s p from by
    rw [← hsk]
    unfold skip
    rw [runF_at, if_neg (by omega)])
   clear hsk
   go_wp2_with fail
   go_quiet (fail)
   go_wp2_with fail
   go_end0
   exact ⟨rfl, by rw [← HS.out]; exact HR.out.drewN _, HT.out.drewN _⟩
end Go.Proofs.YtndagnkhjlgjgaaGreatDoor.Read
namespace Go.Proofs.YtndagnkhjlgjgaaGreatDoor.Tree
open Go.RowKit YtndagnkhjlgjgaaGreatDoorW.PrintWords Str
set_option linter.unusedVariables false
set_option linter.unusedSimpArgs false
def vStep (acc : Nat) (c : UInt8) : Nat := acc * 10 + (c.toNat - 48)
def vD (acc : Nat) (l : List UInt8) : Nat := l.foldl vStep acc
theorem vD_nil (acc : Nat) : vD acc [] = acc := rfl
theorem vD_cons (acc : Nat) (c : UInt8) (l : List UInt8) : vD acc (c :: l) = vD (acc * 10 + (c.toNat - 48)) l := by unfold vD; rw [List.foldl_cons, vStep]
def digB (c : UInt8) : Prop := 48 ≤ c.toNat ∧ c.toNat ≤ 57
theorem vD_ge : ∀ (l : List UInt8) (acc : Nat), acc * 10 ^ l.length ≤ vD acc l
 | [], acc => by rw [vD_nil]; simp
 | c :: l, acc => by
  have := vD_ge l (acc * 10 + (c.toNat - 48))
  rw [vD_cons, List.length_cons, Nat.pow_succ]
  refine Nat.le_trans ?_ this
  rw [show acc * (10 ^ l.length * 10) = acc * 10 * 10 ^ l.length by rw [Nat.mul_comm (10 ^ l.length) 10, Nat.mul_assoc]]
  exact Nat.mul_le_mul_right _ (by omega)
theorem vD_lt : ∀ (l : List UInt8) (acc : Nat), (∀ c ∈ l, digB c) → vD acc l < (acc + 1) * 10 ^ l.length
 | [], acc, _ => by rw [vD_nil]; simp
 | c :: l, acc, h => by
  have hc := h c (by simp)
  have := vD_lt l (acc * 10 + (c.toNat - 48)) (fun x hx => h x (by simp [hx]))
  rw [vD_cons, List.length_cons, Nat.pow_succ]
  refine Nat.lt_of_lt_of_le this ?_
  rw [show (acc + 1) * (10 ^ l.length * 10) = (acc + 1) * 10 * 10 ^ l.length by rw [Nat.mul_comm (10 ^ l.length) 10, Nat.mul_assoc]]
  refine Nat.mul_le_mul_right _ ?_
  unfold digB at hc
  omega
theorem vD_self : ∀ (l : List UInt8) (a : Nat), a ≤ vD a l
 | [], a => Nat.le_refl _
 | c :: l, a => by
  have := vD_self l (a * 10 + (c.toNat - 48))
  rw [vD_cons]
  omega
theorem vD_snoc (l : List UInt8) (a : Nat) (c : UInt8) : vD a (l ++ [c]) = vD a l * 10 + (c.toNat - 48) := by
 unfold vD
 rw [List.foldl_append, List.foldl_cons, List.foldl_nil, vStep]
theorem uintM (l : List UInt8) : ∀ (acc : Nat), (∀ c ∈ l, digB c) → acc ≤ 18446744073709551615 → Lib.parseUintM 18446744073709551615 acc l = if vD acc l ≤ 18446744073709551615 then .ok (vD acc l) else .range := by
 induction l with
 | nil => intro acc _ ha; rw [Lib.parseUintM, vD_nil, if_pos ha]
 | cons c l ih =>
  intro acc h ha
  have hc := h c (by simp)
  have hl : ∀ x ∈ l, digB x := fun x hx => h x (by simp [hx])
  have hs := vD_self l (acc * 10 + (c.toNat - 48))
  unfold digB at hc
  rw [Lib.parseUintM, if_pos hc, vD_cons]
  by_cases h1 : 1844674407370955162 ≤ acc
  ·rw [if_pos h1, if_neg (by omega)]
  ·rw [if_neg h1]
   by_cases h2 : 18446744073709551615 < acc * 10 + (c.toNat - 48)
   ·rw [if_pos h2, if_neg (by omega)]
   ·rw [if_neg h2]
    exact ih _ hl (by omega)
theorem dec_digits : ∀ (n : Nat) (l : List UInt8), l.length = n → l ≠ [] → (∀ c ∈ l, digB c) → (2 ≤ l.length → l.head? ≠ some 48) → Lib.decDigits (vD 0 l) = l := by
 intro n
 induction n with
 | zero => intro l hn hne; exact absurd (List.length_eq_zero_iff.1 hn) hne
 | succ n ih =>
  intro l hn hne hd h0
  obtain ⟨r, c, rfl⟩ : ∃ r c, l = r ++ [c] := ⟨l.dropLast, l.getLast hne, (List.dropLast_concat_getLast hne).symm⟩
  have hc := hd c (by simp)
  unfold digB at hc
  have hcn : UInt8.ofNat (48 + (c.toNat - 48)) = c := by
   rw [show 48 + (c.toNat - 48) = c.toNat by omega]
   simp
  cases r with
  | nil =>
   rw [List.nil_append, vD_cons, vD_nil, Lib.decDigits, dif_pos (by omega), show 0 * 10 + (c.toNat - 48) = c.toNat - 48 by omega, hcn]
  | cons a r =>
   have ha := hd a (by simp)
   have hne0 : a ≠ 48 := by
    have := h0 (by simp)
    intro e
    apply this
    rw [e]
    rfl
   have ha1 : 1 ≤ a.toNat - 48 := by
    unfold digB at ha
    have : a.toNat ≠ 48 := fun e => hne0 (by rw [← UInt8.toNat_inj]; exact e)
    omega
   have hpos : 1 ≤ vD 0 (a :: r) := by
    rw [vD_cons]
    have := vD_self r (0 * 10 + (a.toNat - 48))
    omega
   have ih2 := ih (a :: r) (by simp at hn ⊢; omega) (by simp) (fun x hx => hd x (by simp only [List.mem_append]; exact .inl hx)) (fun _ => by simpa using hne0)
   rw [vD_snoc, Lib.decDigits, dif_neg (by omega), show (vD 0 (a :: r) * 10 + (c.toNat - 48)) / 10 = vD 0 (a :: r) by omega, show (vD 0 (a :: r) * 10 + (c.toNat - 48)) % 10 = c.toNat - 48 by omega, ih2, hcn]
def NumB (l : List UInt8) : Prop := l ≠ [] ∧ (∀ c ∈ l, digB c) ∧ (2 ≤ l.length → l.head? ≠ some 48)
theorem int_pos {l : List UInt8} (h : NumB l) : Lib.parseIntB 64 l = if vD 0 l ≤ 9223372036854775807 then .ok (vD 0 l : Int) else .range := by
 obtain ⟨h1, h2, h3⟩ := h
 cases l with
 | nil => exact absurd rfl h1
 | cons c r =>
  have hc := h2 c (by simp)
  unfold digB at hc
  unfold Lib.parseIntB
  simp only
  rw [if_neg (by omega)]
  unfold Lib.parseUintB
  rw [if_neg (by simp), show (2 ^ 64 - 1 : Nat) = 18446744073709551615 by decide, uintM _ 0 h2 (by omega)]
  by_cases hb : vD 0 (c :: r) ≤ 18446744073709551615
  ·rw [if_pos hb]
   simp only
   by_cases h4 : vD 0 (c :: r) ≤ 9223372036854775807
   ·rw [if_neg (by simp; omega), if_neg (by omega), if_pos h4, if_neg (by omega)]
   ·rw [if_pos (by simp; omega), if_neg h4]
  ·rw [if_neg hb, if_neg (by omega)]
theorem int_neg {l : List UInt8} (h : NumB l) : Lib.parseIntB 64 (45 :: l) = if vD 0 l ≤ 9223372036854775808 then .ok (-(vD 0 l : Int)) else .range := by
 obtain ⟨h1, h2, h3⟩ := h
 have e45 : (45 : UInt8).toNat = 45 := rfl
 unfold Lib.parseIntB
 simp only [e45]
 rw [if_pos (.inr trivial)]
 unfold Lib.parseUintB
 rw [if_neg h1, show (2 ^ 64 - 1 : Nat) = 18446744073709551615 by decide, uintM _ 0 h2 (by omega)]
 by_cases hb : vD 0 l ≤ 18446744073709551615
 ·rw [if_pos hb]
  simp only
  by_cases h4 : vD 0 l ≤ 9223372036854775808
  ·rw [if_neg (by simp), if_neg (by simp; omega), if_pos h4, if_pos trivial]
  ·rw [if_neg (by simp), if_pos (by simp; omega), if_neg h4]
 ·rw [if_neg hb, if_neg (by omega)]
theorem itoa_pos {l : List UInt8} (h : NumB l) : Lib.itoa (vD 0 l : Int) = l := by
 unfold Lib.itoa
 rw [if_neg (by omega), Int.toNat_natCast, dec_digits _ l rfl h.1 h.2.1 h.2.2]
theorem itoa_neg {l : List UInt8} (h : NumB l) (h0 : l ≠ [48]) : Lib.itoa (-(vD 0 l : Int)) = 45 :: l := by
 have hp : 1 ≤ vD 0 l := by
  obtain ⟨h1, h2, h3⟩ := h
  cases l with
  | nil => exact absurd rfl h1
  | cons c r =>
   have hc := h2 c (by simp)
   unfold digB at hc
   have hne : c.toNat ≠ 48 := by
    intro e
    have e2 : c = 48 := by rw [← UInt8.toNat_inj]; exact e
    cases r with
    | nil => exact h0 (by rw [e2])
    | cons d r => exact h3 (by simp) (by rw [e2]; rfl)
   rw [vD_cons]
   have := vD_self r (0 * 10 + (c.toNat - 48))
   omega
 unfold Lib.itoa
 rw [if_pos (by omega), Int.natAbs_neg, Int.natAbs_natCast, dec_digits _ l rfl h.1 h.2.1 h.2.2]
end Go.Proofs.YtndagnkhjlgjgaaGreatDoor.Tree
