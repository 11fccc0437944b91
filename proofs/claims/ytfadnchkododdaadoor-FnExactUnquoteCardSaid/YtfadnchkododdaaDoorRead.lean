/- The reader of JSON: contracts by hand of peek, want. -/
import Derived.Test.YtfadnchkododdaaDoorStr0
import Derived.Test.YtfadnchkododdaaDoorTch
import Derived.Test.YtfadnchkododdaaDoorProg
import Derived.Test.YtfadnchkododdaaDoorShelf
import Derived.Deep.QuietTactic
import Derived.BigQuiet
import Derived.RegionTactic
import Derived.Outline
import Derived.WalkLawsBesides
import Derived.Lib.Strings
namespace Go.Proofs.YtfadnchkododdaaDoor.Read
open Go Go.RowKit Go.Proofs.YtfadnchkododdaaDoorW.PrintWords Go.Proofs.YtfadnchkododdaaDoor.Str Go.Proofs.YtfadnchkododdaaDoor.Tchs
set_option linter.unusedVariables false
set_option linter.unusedSimpArgs false

/-- Block g holds a reader of s at p. -/
def Rdr (w : World) (g : Nat) (s : ByteArray) (p : Nat) (rg tw : Bool) : Prop := w.heap[g]? = some (.cells #[.string s, .int .i64 (p : Int), .bool rg, .bool tw] 40 (0, 0))
/-- What is thrown where the form is wrong. -/
abbrev noForm : List PanicEntry := [{ v := .iface 36 (.agg #[]), recovered := false }]
theorem Rdr.at_ {w : World} {g : Nat} {s : ByteArray} {p : Nat} {rg tw : Bool} (h : Rdr w g s p rg tw) : w.cell? ⟨g, 0, none⟩ = some (.string s) ∧ w.cell? ⟨g, 1, none⟩ = some (.int .i64 (p : Int)) ∧ w.frozen? ⟨g, 1, none⟩ = false := ⟨blk_cell h 0, blk_cell h 1, blk_frozen h 1⟩
theorem Rdr.below {w w1 : World} {g : Nat} {s : ByteArray} {p : Nat} {rg tw : Bool} (h : Rdr w g s p rg tw) (hb : Below w.heap.size w w1) : Rdr w1 g s p rg tw := blk_below h hb
theorem Rdr.set {w : World} {g : Nat} {s : ByteArray} {p : Nat} {rg tw : Bool} (h : Rdr w g s p rg tw) (q : Int) (n : Nat) (hq : q = (n : Int)) : Rdr (w.setCell ⟨g, 1, none⟩ (.int .i64 q)) g s n rg tw := by subst hq; exact blk_set h 1 _
theorem Rdr.kept {w w1 : World} {g : Nat} {s : ByteArray} {p : Nat} {rg tw : Bool} {S : Nat → Prop} (h : Rdr w g s p rg tw) (hk : Kept w w1 S) (hs : ¬ S g) : Rdr w1 g s p rg tw := blk_kept h hk hs
theorem Rdr.drew {w : World} {g : Nat} {s : ByteArray} {p : Nat} {rg tw : Bool} (h : Rdr w g s p rg tw) : Rdr w.drew g s p rg tw := h
theorem Rdr.drewN {w : World} {g : Nat} {s : ByteArray} {p : Nat} {rg tw : Bool} (h : Rdr w g s p rg tw) (n : Nat) : Rdr (w.drewN n) g s p rg tw := h
theorem Rdr.lt {w : World} {g : Nat} {s : ByteArray} {p : Nat} {rg tw : Bool} (h : Rdr w g s p rg tw) : g < w.heap.size := blk_lt h

set_option maxRecDepth 100000 in
set_option maxHeartbeats 4000000 in
theorem peek_ok (g : Nat) (s : ByteArray) (p : Nat) (rg tw : Bool) (w : World) (h : Rdr w g s p rg tw) (hp : p < s.size) (hs : s.size ≤ 1048576) :
    Calls Tryd.prog 31 #[.pointer (some ⟨g, 0, none⟩)] w fun e w' => e = .returned (.int .u8 (bt s (p : Int))) ∧ Below w.heap.size w w' := by
  obtain ⟨h0, h1, _⟩ := h.at_
  have hge : decide ((s.size : Int) ≤ (p : Int)) = false := decide_eq_false (by omega)
  have hp0 : (0 : Int) ≤ (p : Int) := by omega
  have hp1 : (p : Int) < (s.size : Int) := by omega
  have hbt : bt s (p : Int) = ((s[p]'hp).toNat : Int) := by simp [bt, hp]
  go_enter Tryd.func31, Tryd.ntmps31
  go_wp2_with fail
  go_quiet (fail)
  go_wp2_with fail
  go_quiet (fail)
  go_wp2_with fail
  go_ret
  refine ⟨?_, ?_⟩
  · rw [hbt]; rfl
  · repeat (first | exact Below.refl _ _ | apply pw_below_drewN | apply below_drew)

set_option maxRecDepth 100000 in
set_option maxHeartbeats 4000000 in
theorem peek_no (g : Nat) (s : ByteArray) (p : Nat) (rg tw : Bool) (w : World) (h : Rdr w g s p rg tw) (hp : s.size ≤ p) (hs : s.size ≤ 1048576) :
    Calls Tryd.prog 31 #[.pointer (some ⟨g, 0, none⟩)] w fun e w' => e = .panicked noForm ∧ Below w.heap.size w w' := by
  obtain ⟨h0, h1, _⟩ := h.at_
  have hge : decide ((s.size : Int) ≤ (p : Int)) = true := decide_eq_true (by omega)
  go_enter Tryd.func31, Tryd.ntmps31
  go_wp2_with fail
  go_quiet (fail)
  go_wp2_with fail
  refine ⟨rfl, rfl, ?_⟩
  repeat (first | exact Below.refl _ _ | apply pw_below_drewN | apply below_drew)

/-- The text from p on begins with x. -/
def pre (s : ByteArray) (p : Nat) (x : ByteArray) : Bool := Lib.hasPrefix (List.take (s.size - p) (List.drop p s.data.toList)) x.data.toList

set_option maxRecDepth 100000 in
set_option maxHeartbeats 4000000 in
theorem want_ok (g : Nat) (s : ByteArray) (p : Nat) (rg tw : Bool) (x : ByteArray) (w : World) (h : Rdr w g s p rg tw) (hp : p ≤ s.size) (hs : s.size ≤ 1048576) (hx : pre s p x = true) (hxs : x.size ≤ 100) :
    Calls Tryd.prog 30 #[.pointer (some ⟨g, 0, none⟩), .string x] w fun e w' => e = .returned (.tuple #[]) ∧ Rdr w' g s (p + x.size) rg tw ∧ Tch w w' (fun k => k = g) := by
  obtain ⟨h0, h1, hf⟩ := h.at_
  have H := Lib.hid h
  unfold pre at hx
  clear h
  have hp0 : (0 : Int) ≤ (p : Int) := by omega
  have hp1 : (p : Int) ≤ (s.size : Int) := by omega
  have hp2 : (s.size : Int) ≤ (s.size : Int) := by omega
  go_enter Tryd.func30, Tryd.ntmps30
  go_wp2_with fail
  go_quiet ((go_at_call 48; refine Calls.quiet_of_same (Tryd.strings_HasPrefix _ _ _)))
  go_wp2_with fail
  go_end0
  exact ⟨rfl, Rdr.set (H.out.drewN _) _ _ (by simp), Tch.setCell ((Tch.refl w (fun k => k = g)).drewN _) (p := ⟨g, 1, none⟩) (.inl rfl) _⟩

set_option maxRecDepth 100000 in
set_option maxHeartbeats 4000000 in
theorem want_no (g : Nat) (s : ByteArray) (p : Nat) (rg tw : Bool) (x : ByteArray) (w : World) (h : Rdr w g s p rg tw) (hp : p ≤ s.size) (hs : s.size ≤ 1048576) (hx : pre s p x = false) :
    Calls Tryd.prog 30 #[.pointer (some ⟨g, 0, none⟩), .string x] w fun e w' => e = .panicked noForm ∧ Below w.heap.size w w' := by
  obtain ⟨h0, h1, hf⟩ := h.at_
  unfold pre at hx
  clear h
  have hp0 : (0 : Int) ≤ (p : Int) := by omega
  have hp1 : (p : Int) ≤ (s.size : Int) := by omega
  have hp2 : (s.size : Int) ≤ (s.size : Int) := by omega
  go_enter Tryd.func30, Tryd.ntmps30
  go_wp2_with fail
  go_quiet ((go_at_call 48; refine Calls.quiet_of_same (Tryd.strings_HasPrefix _ _ _)))
  go_wp2_with fail
  refine ⟨rfl, rfl, ?_⟩
  repeat (first | exact Below.refl _ _ | apply pw_below_drewN | apply below_drew)
end Go.Proofs.YtfadnchkododdaaDoor.Read
