/- A hub among a law's arguments, opened. -/
import Derived.Test.YtmphkhkbegihaaaDoorLawB
namespace Go.Proofs.YtmphkhkbegihaaaDoor.HubLaw
open Go Go.RowKit Go.Proofs.YtmphkhkbegihaaaDoor.PHub Go.Proofs.YtmphkhkbegihaaaDoorW.PrintWords Go.Proofs.YtmphkhkbegihaaaDoor.Open
set_option maxRecDepth 100000 in
theorem open_hub {H : Type} {enc : TypeId × Value → H} {w : World} {base : Nat} {spare : Nat → Bool} {held : Bool} {fuel : Nat} {cs : List Value} {x : DataW H × List MemPlace} (h : DataW.trod enc Tryd.prog w base spare held fuel 39 cs = some x) :
    ∃ A0 c0 l0 A1 c1 l1, cs = [.slice A0 l0.length c0, .slice A1 l1.length c1] ∧ l0.length ≤ c0 ∧ Kd.C k105 w A0 l0.length l0 ∧ l1.length ≤ c1 ∧ Kd.C k107 w A1 l1.length l1 ∧ bdHub l0 l1 := by
  obtain ⟨xs, n, rfl, _, hl, hx, hf⟩ := DataW.trod_struct Tryd.underlying39 h
  replace hl : cs.length = 2 := hl.trans (by kernel_rfl)
  match cs, hl with
  | [a0, a1], _ =>
    replace hx : xs.length = 2 := hx
    have h0 : DataW.trod enc Tryd.prog w base spare held n 36 [a0] = xs[0]? := hf 0 _ rfl
    have h1 : DataW.trod enc Tryd.prog w base spare held n 37 [a1] = xs[1]? := hf 1 _ rfl
    rw [List.getElem?_eq_getElem (by omega)] at h0 h1
    obtain ⟨l0, ⟨A0, c0, e0, hc0, hr0⟩, b0⟩ := (opens_slice Tryd.underlying36 (by kernel_rfl) opens_Wat) h0
    obtain ⟨l1, ⟨A1, c1, e1, hc1, hr1⟩, b1⟩ := (opens_slice Tryd.underlying37 (by kernel_rfl) opens_New) h1
    injection e0 with e0
    injection e1 with e1
    exact ⟨A0, c0, l0, A1, c1, l1, by rw [e0, e1], hc0, hr0, hc1, hr1, b0, b1⟩
theorem agg_of_cells2 {v a b : Value} (h : v.cells.toList = [a, b]) : v = .agg #[a, b] := by
  cases v <;> simp [Value.cells] at h
  rename_i cs
  congr 1
  apply Array.ext'
  simpa using h
end Go.Proofs.YtmphkhkbegihaaaDoor.HubLaw
