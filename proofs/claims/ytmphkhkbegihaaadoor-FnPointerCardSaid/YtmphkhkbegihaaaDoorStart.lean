/- What the rows of this seat share: a start at which the listed tables hold what they list; what the door says of bytealg.MaxLen; a slice of strings among the arguments, opened as the printed contracts want it. -/
import Derived.Test.YtmphkhkbegihaaaDoorCards
import Derived.Test.YtmphkhkbegihaaaDoorTie
import Derived.Test.YtmphkhkbegihaaaDoorOwn
import Derived.WalkKit
import Derived.ProofKit
import Derived.OpenShut
import Derived.SliceStrings
import Derived.Lay
namespace Go.Proofs.YtmphkhkbegihaaaDoor.Start
open Go Go.ChangeShapes Go.WideShapes Go.ChangeAt Go.RowKit Go.Proofs.YtmphkhkbegihaaaDoor.Own Go.Proofs.YtmphkhkbegihaaaDoorW.PrintWords

theorem own : ownKnob Tryd.prog.godebug = none := by kernel_rfl
theorem laidOut : laidOutB Tryd.prog = true := by kernel_rfl
theorem gm {w : World} (h : w.ShapedOpen Tryd.prog) : GM w := Tryd.laysM219.s1_3 w h
abbrev laid2 : List (String × DataW Unit) := [("unicode/utf8.acceptRanges", Rows.laid_unicode_utf8_acceptRanges), ("unicode/utf8.first", Rows.laid_unicode_utf8_first)]
/-- A slice of strings among the arguments, in the printed contracts' words. -/
theorem open_row {H : Type} {enc : TypeId × Value → H} {P : Program} {w : World} {base : Nat} {spare : Nat → Bool} {held : Bool} {t e : TypeId} {a : Option Addr} {len cap : Nat} {d : DataW H} {ps : List MemPlace}
    (ht : P.underlying t = some (.slice e)) (he : P.underlying e = some .string) (hc : P.cellsOf e = 1) (h : DataW.Trod enc P w base spare held t (.slice a len cap) d ps) :
    ∃ l : List ByteArray, l.length = len ∧ len ≤ cap ∧ Kd.C Kd.string w a l.length l ∧ l.length ≤ 9223372036854775807 ∧ ∀ x ∈ l, x.size ≤ 9223372036854775807 := by
  obtain ⟨fuel, hf⟩ := h
  rcases open_strings ht he hc hf with ⟨hcs, hx⟩ | ⟨a', len', cap', ss, hcs, _, hl, hm, hz, hx, hcell, hsz⟩
  · simp [Value.cells] at hcs
    obtain ⟨rfl, rfl, rfl⟩ := hcs
    exact ⟨[], rfl, Nat.le_refl _, Kd.C_of_reads (d := ByteArray.empty) (h1 := fun _ => rfl) ⟨rfl, by decide, fun h => absurd h (by decide)⟩, by decide, by simp⟩
  · simp [Value.cells] at hcs
    obtain ⟨rfl, rfl, rfl⟩ := hcs
    have hle : len ≤ ss.length := by rw [hz]; split <;> omega
    have e1 : maxLen = 9223372036854775807 := rfl
    have hlen : (ss.take len).length = len := by rw [List.length_take]; omega
    refine ⟨ss.take len, hlen, hl, ?_, by rw [hlen]; omega, fun x hx => by have := hsz x (List.mem_of_mem_take hx); omega⟩
    refine Kd.C_of_reads (d := ByteArray.empty) (h1 := fun _ => rfl) ⟨rfl, by rw [hlen]; omega, fun _ => ⟨a', rfl, fun j hj => ?_⟩⟩
    rw [hlen] at hj
    have := hcell j (by omega)
    rw [this]
    congr 2
    simp [List.getD_eq_getElem?_getD, hj]
end Go.Proofs.YtmphkhkbegihaaaDoor.Start
