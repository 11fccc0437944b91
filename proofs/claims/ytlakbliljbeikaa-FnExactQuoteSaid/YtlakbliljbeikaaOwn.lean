/-
  Contracts, by hand, of the functions of this seat that the print does not take (strings.IndexByte by the shelf, impl.validRunes by a walk), each in the print's own form.
-/
import Derived.Test.YtlakbliljbeikaaProg
import Derived.Test.YtlakbliljbeikaaShelf
import Derived.Test.YtlakbliljbeikaaWWords
import Derived.WalkKit
import Derived.LoopTactic
import Derived.Lib.Hide
import Derived.Outline
namespace Go.Proofs.Ytlakbliljbeikaa.Own
open Go.RowKit Go.Proofs.YtlakbliljbeikaaW.PrintWords
set_option linter.unusedVariables false

def strings_IndexByte.f (a0 : ByteArray) (a1 : Int) : Option Int := some (Lib.indexByte a0.data.toList a1.toNat.toUInt8)
theorem strings_IndexByte.calls (a0 : ByteArray) (a1 : Int) (r : Int) (w : World) (h : strings_IndexByte.f a0 a1 = some r) :
    Calls Try.prog 13 #[.string a0, .int .u8 a1] w fun e w' => e = .returned (.int .i64 r) ∧ Drawn0 w w' := by
  obtain rfl := Option.some.inj h
  refine (Try.strings_IndexByte a0 a1 w).mono ?_
  rintro e w' ⟨he, rfl⟩
  exact ⟨he, Drawn0.refl _⟩

/-- The rune at pos is no valid one. -/
def badAt (s : ByteArray) (pos : Nat) : Bool := ((Utf8.decode s pos).1 == 65533) && !(Lib.hasPrefix (List.take (s.size - pos) (List.drop pos s.data.toList)) [239, 191, 189])
/-- From pos on, b rounds at most, all runes are valid. -/
def vr (s : ByteArray) : Nat → Nat → Bool
  | 0, _ => true
  | b + 1, pos => if pos < s.size then (if badAt s pos = true then false else vr s b (pos + (Utf8.decode s pos).2)) else true
def impl_validRunes.f (a0 : ByteArray) : Option Bool := some (vr a0 a0.size 0)

theorem width_pos (s : ByteArray) (pos : Nat) (h : pos < s.size) : 1 ≤ (Utf8.decode s pos).2 := by
  by_cases ha : (s[pos]'h).toNat < 128
  · rw [decode_ascii s pos h ha]
    exact Nat.le_refl _
  · exact (decode_high s pos h (by omega)).2
theorem vr_end (s : ByteArray) (b pos : Nat) (h : ¬ pos < s.size) : vr s b pos = true := by
  cases b with
  | zero => rfl
  | succ b => simp [vr, h]
set_option maxRecDepth 1000000 in
set_option maxHeartbeats 1000000 in
theorem impl_validRunes.calls (a0 : ByteArray) (r : Bool) (w : World) (h : impl_validRunes.f a0 = some r) :
    Calls Try.prog 9 #[.string a0] w fun e w' => e = .returned (.bool r) ∧ Below w.heap.size w w' := by
  obtain rfl := Option.some.inj h
  have hfin : ∀ pos, Below w.heap.size w (w.iter a0 pos) := fun pos => (Below.refl _ _).alloc (Nat.le_refl _) _
  go_enter Try.func9, Try.ntmps9
  go_wp2_with fail
  go_loopw [2, 3, 4] (fun u3 i c w' => ∃ (pos b : Nat), w' = w.iter a0 pos ∧ vr a0 b pos = vr a0 a0.size 0 ∧ a0.size ≤ pos + b) (fun _ _ _ w' => a0.size - w'.iterPos w.heap.size)
  case atStart => exact ⟨0, a0.size, rfl, rfl, by omega⟩
  case round =>
    obtain ⟨pos, b, rfl, hc, hb⟩ := hrel
    have HC := Lib.hid hc
    clear hc
    by_cases hp : pos < a0.size
    · have hnx : ∀ ty, (Instr.next (.pointer (some ⟨w.heap.size, 0, none⟩)) true ty).run Try.prog (w.iter a0 pos) = _ := fun ty => run_next_any w a0 pos ty hp
      have hwd := width_pos a0 pos hp
      by_cases hr : (Utf8.decode a0 pos).1 = 65533
      · have hrb : (((Utf8.decode a0 pos).1 : Int) == 65533) = true := by rw [hr]; rfl
        by_cases hq : Lib.hasPrefix (List.take (a0.size - pos) (List.drop pos a0.data.toList)) [239, 191, 189] = true
        · go_wp2_with fail
          refine (Try.strings_HasPrefix _ _ _).mono ?_
          rintro e w' ⟨rfl, rfl⟩
          go_wp2_with fail
          go_roundw
          case rel =>
            cases b with
            | zero => omega
            | succ b =>
              refine ⟨pos + (Utf8.decode a0 pos).2, b, rfl, ?_, by omega⟩
              rw [← HC.out, vr, if_pos hp, if_neg (by unfold badAt; rw [hq]; simp)]
          case measure =>
            simp
            omega
        · have hq' : Lib.hasPrefix (List.take (a0.size - pos) (List.drop pos a0.data.toList)) [239, 191, 189] = false := by simpa using hq
          clear hq
          go_wp2_with fail
          refine (Try.strings_HasPrefix _ _ _).mono ?_
          rintro e w' ⟨rfl, rfl⟩
          go_wp2_with fail
          go_ret
          refine ⟨?_, hfin _⟩
          cases b with
          | zero => omega
          | succ b =>
            rw [← HC.out, vr, if_pos hp, if_pos (by unfold badAt; rw [hq', hr]; rfl)]
            rfl
      · have hrb : (((Utf8.decode a0 pos).1 : Int) == 65533) = false := by simp; omega
        have hbad : badAt a0 pos = false := by unfold badAt; simp [hr]
        have HB := Lib.hid hbad
        clear hbad
        go_wp2_with fail
        go_roundw
        case rel =>
          cases b with
          | zero => omega
          | succ b =>
            refine ⟨pos + (Utf8.decode a0 pos).2, b, rfl, ?_, by omega⟩
            rw [← HC.out, vr, if_pos hp, HB.out]
            simp
        case measure =>
          simp
          omega
    · have hnx : ∀ ty, (Instr.next (.pointer (some ⟨w.heap.size, 0, none⟩)) true ty).run Try.prog (w.iter a0 pos) = _ := fun ty => run_next_end w a0 pos ty hp
      go_wp2_with fail
      go_ret
      refine ⟨?_, hfin _⟩
      rw [← HC.out, vr_end a0 b pos hp]
      rfl
end Go.Proofs.Ytlakbliljbeikaa.Own
