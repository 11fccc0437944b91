/- What the reader of a claim tells of an argument, in the print's kinds. -/
import Derived.Test.YtmphkhkbegihaaaDoorPHubx
import Derived.ChangeArms
import Derived.KernelRfl
namespace Go.Proofs.YtmphkhkbegihaaaDoor.Open
open Go Go.RowKit Go.Proofs.YtmphkhkbegihaaaDoor.PHub Go.Proofs.YtmphkhkbegihaaaDoorW.PrintWords
set_option linter.unusedVariables false
set_option linter.unusedSimpArgs false

/-- What reads as type t is of kind d, within B. -/
def Opens {α : Type} (P : Program) (w : World) (t : TypeId) (d : Kd α) (B : α → Prop) : Prop :=
  ∀ {H : Type} {enc : TypeId × Value → H} {base : Nat} {spare : Nat → Bool} {held : Bool} {fuel : Nat} {cs : List Value} {x : DataW H × List MemPlace}, DataW.trod enc P w base spare held fuel t cs = some x → ∃ a, d.K w a cs ∧ B a
theorem opens_int {P : Program} {w : World} {t : TypeId} {k : IntKind} (ht : P.underlying t = some (.int k)) : Opens P w t (Kd.int k) (fun _ => True) := by
  intro H enc base spare held fuel cs x h
  obtain ⟨n, rfl, _⟩ := DataW.trod_int ht h
  exact ⟨n, rfl, trivial⟩
theorem opens_bool {P : Program} {w : World} {t : TypeId} (ht : P.underlying t = some .bool) : Opens P w t Kd.bool (fun _ => True) := by
  intro H enc base spare held fuel cs x h
  obtain ⟨n, rfl, _⟩ := DataW.trod_bool ht h
  exact ⟨n, rfl, trivial⟩
theorem opens_string {P : Program} {w : World} {t : TypeId} (ht : P.underlying t = some .string) : Opens P w t Kd.string (fun s => s.size ≤ 9223372036854775807) := by
  intro H enc base spare held fuel cs x h
  obtain ⟨s, rfl, _, hs⟩ := DataW.trod_string ht h
  exact ⟨s, rfl, hs⟩
theorem cells_get {w : World} {base : Nat} {a : Addr} {n : Nat} {cs : List Value} (h : w.cells? base a n = some cs) : cs.length = n ∧ ∀ i u, cs[i]? = some u → w.cell? (a.add i) = some u := by
  unfold World.cells? at h
  split at h
  · have hl := mapM_some_length h
    rw [List.length_range] at hl
    refine ⟨hl, fun i u hu => ?_⟩
    have hi : i < n := by rw [← hl]; exact (List.getElem?_eq_some_iff.1 hu).1
    have := mapM_some_get h i i (by simp [hi])
    rw [hu] at this
    exact this
  · cases h
theorem add_add (a : Addr) (n m : Nat) (hs : n = 0 → m = 0 → True) : (a.add n).add m = a.add (n + m) := by
  unfold Addr.add
  by_cases h1 : n = 0
  · subst h1; simp
  · by_cases h2 : m = 0
    · subst h2; simp [h1]
    · simp [h1, h2, Nat.add_assoc]
theorem opens_slice {α : Type} {P : Program} {w : World} {t e : TypeId} {d : Kd α} {B : α → Prop} (ht : P.underlying t = some (.slice e)) (hc : P.cellsOf e = d.sz) (he : Opens P w e d B) :
    Opens P w t (Kd.slice e d) (fun l => (∀ y ∈ l, B y) ∧ l.length ≤ 9223372036854775807) := by
  intro H enc base spare held fuel cs x h
  rcases DataW.trod_slice ht h with ⟨rfl, _⟩ | ⟨a, len, cap, elems, rest, n, rfl, rfl, _, _, hl, hm, hel, hi, _⟩
  · exact ⟨[], ⟨none, 0, rfl, Nat.le_refl _, Kd.C_nil d w⟩, by simp, by simp⟩
  · have key : ∀ i, i < len → ∃ (y : α) (c : List Value), d.K w y c ∧ B y ∧ c.length = d.sz ∧ ∀ j u, c[j]? = some u → w.cell? (a.add (i * d.sz + j)) = some u := by
      intro i hil
      have h1 := hi i hil
      rw [List.getElem?_eq_getElem (by omega)] at h1
      obtain ⟨c, hcs, h2⟩ := Option.bind_eq_some_iff.1 h1
      obtain ⟨y, hK, hB⟩ := he h2
      rw [hc] at hcs
      obtain ⟨hcl, hcc⟩ := cells_get hcs
      exact ⟨y, c, hK, hB, hcl, fun j u hu => by rw [← add_add _ _ _ (fun _ _ => trivial)]; exact hcc j u hu⟩
    obtain ⟨l, hll, hlp⟩ : ∃ l : List α, l.length = len ∧ ∀ i y, l[i]? = some y → ∃ c : List Value, d.K w y c ∧ B y ∧ c.length = d.sz ∧ ∀ j u, c[j]? = some u → w.cell? (a.add (i * d.sz + j)) = some u := by
      have : ∀ m, m ≤ len → ∃ l : List α, l.length = m ∧ ∀ i y, l[i]? = some y → ∃ c : List Value, d.K w y c ∧ B y ∧ c.length = d.sz ∧ ∀ j u, c[j]? = some u → w.cell? (a.add (i * d.sz + j)) = some u := by
        intro m
        induction m with
        | zero => intro _; exact ⟨[], rfl, fun i y h => by simp at h⟩
        | succ m ih =>
          intro hm
          obtain ⟨l, h1, h2⟩ := ih (by omega)
          obtain ⟨y, c, hy⟩ := key m (by omega)
          refine ⟨l ++ [y], by simp [h1], fun i z hz => ?_⟩
          rcases Nat.lt_or_ge i l.length with h | h
          · rw [List.getElem?_append_left h] at hz
            exact h2 i z hz
          · have hi : i = l.length := by
              have := (List.getElem?_eq_some_iff.1 hz).1
              simp at this
              omega
            subst hi
            have : y = z := by simpa using hz
            subst this
            rw [h1]
            exact ⟨c, hy⟩
      exact this len (Nat.le_refl _)
    have hmx : len ≤ 9223372036854775807 := by simp only [maxLen] at hm; omega
    refine ⟨l, ⟨some a, cap, by rw [hll], by omega, rfl, by omega, fun _ => ⟨a, rfl, fun j y hy => ?_⟩⟩, fun y hy => ?_, by omega⟩
    · obtain ⟨c, h1, _, h2, h3⟩ := hlp j y hy
      exact ⟨c, h2, h1, h3⟩
    · obtain ⟨j, hj, rfl⟩ := List.getElem_of_mem hy
      obtain ⟨c, _, h2, _⟩ := hlp j _ (List.getElem?_eq_getElem hj)
      exact h2
/-! ### the laws' types -/
def bdMsg (x : S140) : Prop := ((∀ y ∈ x.f1, y.size ≤ 9223372036854775807) ∧ x.f1.length ≤ 9223372036854775807)
set_option maxRecDepth 100000 in
theorem opens_Msg {w : World} : Opens Tryd.prog w 140 k140 bdMsg := by
  intro H enc base spare held fuel cs x h
  obtain ⟨xs, n, rfl, _, hl, hx, hf⟩ := DataW.trod_struct Tryd.underlying140 h
  replace hl : cs.length = 3 := hl.trans (by kernel_rfl)
  match cs, hl with
  | [a0, a1, a2], _ =>
    replace hx : xs.length = 3 := hx
    have h0 : DataW.trod enc Tryd.prog w base spare held n 3 [a0] = xs[0]? := hf 0 _ rfl
    rw [List.getElem?_eq_getElem (by omega)] at h0
    obtain ⟨y0, k0, b0⟩ := (opens_int Tryd.underlying3) h0
    have h1 : DataW.trod enc Tryd.prog w base spare held n 22 [a1] = xs[1]? := hf 1 _ rfl
    rw [List.getElem?_eq_getElem (by omega)] at h1
    obtain ⟨y1, k1, b1⟩ := (opens_slice Tryd.underlying22 (by kernel_rfl) (opens_string Tryd.underlying9)) h1
    have h2 : DataW.trod enc Tryd.prog w base spare held n 4 [a2] = xs[2]? := hf 2 _ rfl
    rw [List.getElem?_eq_getElem (by omega)] at h2
    obtain ⟨y2, k2, b2⟩ := (opens_bool Tryd.underlying4) h2
    exact ⟨⟨y0, y1, y2⟩, ⟨[a0], [a1, a2], rfl, k0, ⟨[a1], [a2], rfl, k1, k2⟩⟩, b1⟩
def bdWat (x : S105) : Prop := x.f1.size ≤ 9223372036854775807 ∧ ((∀ y ∈ x.f5, bdMsg y) ∧ x.f5.length ≤ 9223372036854775807)
set_option maxRecDepth 100000 in
theorem opens_Wat {w : World} : Opens Tryd.prog w 105 k105 bdWat := by
  intro H enc base spare held fuel cs x h
  obtain ⟨xs, n, rfl, _, hl, hx, hf⟩ := DataW.trod_struct Tryd.underlying105 h
  replace hl : cs.length = 6 := hl.trans (by kernel_rfl)
  match cs, hl with
  | [a0, a1, a2, a3, a4, a5], _ =>
    replace hx : xs.length = 6 := hx
    have h0 : DataW.trod enc Tryd.prog w base spare held n 3 [a0] = xs[0]? := hf 0 _ rfl
    rw [List.getElem?_eq_getElem (by omega)] at h0
    obtain ⟨y0, k0, b0⟩ := (opens_int Tryd.underlying3) h0
    have h1 : DataW.trod enc Tryd.prog w base spare held n 9 [a1] = xs[1]? := hf 1 _ rfl
    rw [List.getElem?_eq_getElem (by omega)] at h1
    obtain ⟨y1, k1, b1⟩ := (opens_string Tryd.underlying9) h1
    have h2 : DataW.trod enc Tryd.prog w base spare held n 3 [a2] = xs[2]? := hf 2 _ rfl
    rw [List.getElem?_eq_getElem (by omega)] at h2
    obtain ⟨y2, k2, b2⟩ := (opens_int Tryd.underlying3) h2
    have h3 : DataW.trod enc Tryd.prog w base spare held n 3 [a3] = xs[3]? := hf 3 _ rfl
    rw [List.getElem?_eq_getElem (by omega)] at h3
    obtain ⟨y3, k3, b3⟩ := (opens_int Tryd.underlying3) h3
    have h4 : DataW.trod enc Tryd.prog w base spare held n 4 [a4] = xs[4]? := hf 4 _ rfl
    rw [List.getElem?_eq_getElem (by omega)] at h4
    obtain ⟨y4, k4, b4⟩ := (opens_bool Tryd.underlying4) h4
    have h5 : DataW.trod enc Tryd.prog w base spare held n 103 [a5] = xs[5]? := hf 5 _ rfl
    rw [List.getElem?_eq_getElem (by omega)] at h5
    obtain ⟨y5, k5, b5⟩ := (opens_slice Tryd.underlying103 (by kernel_rfl) opens_Msg) h5
    exact ⟨⟨y0, y1, y2, y3, y4, y5⟩, ⟨[a0], [a1, a2, a3, a4, a5], rfl, k0, ⟨[a1], [a2, a3, a4, a5], rfl, k1, ⟨[a2], [a3, a4, a5], rfl, k2, ⟨[a3], [a4, a5], rfl, k3, ⟨[a4], [a5], rfl, k4, k5⟩⟩⟩⟩⟩, ⟨b1, b5⟩⟩
def bdNew (x : S107) : Prop := ((∀ y ∈ x.f1, y.size ≤ 9223372036854775807) ∧ x.f1.length ≤ 9223372036854775807)
set_option maxRecDepth 100000 in
theorem opens_New {w : World} : Opens Tryd.prog w 107 k107 bdNew := by
  intro H enc base spare held fuel cs x h
  obtain ⟨xs, n, rfl, _, hl, hx, hf⟩ := DataW.trod_struct Tryd.underlying107 h
  replace hl : cs.length = 2 := hl.trans (by kernel_rfl)
  match cs, hl with
  | [a0, a1], _ =>
    replace hx : xs.length = 2 := hx
    have h0 : DataW.trod enc Tryd.prog w base spare held n 3 [a0] = xs[0]? := hf 0 _ rfl
    rw [List.getElem?_eq_getElem (by omega)] at h0
    obtain ⟨y0, k0, b0⟩ := (opens_int Tryd.underlying3) h0
    have h1 : DataW.trod enc Tryd.prog w base spare held n 22 [a1] = xs[1]? := hf 1 _ rfl
    rw [List.getElem?_eq_getElem (by omega)] at h1
    obtain ⟨y1, k1, b1⟩ := (opens_slice Tryd.underlying22 (by kernel_rfl) (opens_string Tryd.underlying9)) h1
    exact ⟨⟨y0, y1⟩, ⟨[a0], [a1], rfl, k0, k1⟩, b1⟩
end Go.Proofs.YtmphkhkbegihaaaDoor.Open
