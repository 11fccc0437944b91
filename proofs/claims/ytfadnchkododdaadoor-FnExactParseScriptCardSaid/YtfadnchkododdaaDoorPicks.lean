/- impl.picksOf over its print: what it answers, for every row of words. -/
import Derived.Test.YtfadnchkododdaaDoorZDefs
import Derived.Test.YtfadnchkododdaaDoorCall
namespace Go.Proofs.YtfadnchkododdaaDoor.Ps
open Go Go.RowKit Go.Proofs.YtfadnchkododdaaDoorW.PrintWords Go.Proofs.YtfadnchkododdaaDoor.PPs
set_option linter.unusedVariables false
set_option linter.unusedSimpArgs false

/-- What clientOf answers. -/
def clientF (s : ByteArray) : Int × Bool := if s.size = 1 then (if bt s 0 < 48 then (0, false) else if bt s 0 > 55 then (0, false) else ((bt s 0 - 48) % 256, true)) else (0, false)
theorem client_f (s : ByteArray) : impl_clientOf.f s = some (clientF s) := by
  unfold impl_clientOf.f clientF
  by_cases h : s.size = 1
  · rw [if_pos (by omega), if_pos h, if_pos (by omega)]
    split
    · rfl
    · split <;> rfl
  · rw [if_neg (by omega), if_neg h]
/-- The number of one pick. -/
def pickF (s : ByteArray) : Option Int := if s.toList = [100] then some 8 else if (clientF s).2 = true then some (clientF s).1 else none
def picksG : List Int → List ByteArray → List Int × Bool
  | acc, [] => (acc, true)
  | acc, s :: r => match pickF s with
    | some n => picksG (acc ++ [n]) r
    | none => ([], false)
theorem picks_len : ∀ (r : List ByteArray) (acc : List Int), (picksG acc r).1.length ≤ acc.length + r.length
  | [], acc => by simp [picksG]
  | s :: r, acc => by
    unfold picksG
    split
    · have := picks_len r (acc ++ [‹Int›])
      simp at this ⊢
      omega
    · simp
theorem wrap_id (x : Int) (h0 : -9223372036854775808 ≤ x) (h1 : x ≤ 9223372036854775807) : wrap64 x = x := by unfold wrap64; omega
theorem picks_all : ∀ (r done : List ByteArray) (acc : List Int) (k : Nat), r.length < k → acc.length + r.length < 17592186044416 → done.length + r.length < 17592186044416 →
    impl_picksOf.l0 k acc (done ++ r) ((done ++ r).length : Int) (done.length : Int) = some (picksG acc r)
  | [], done, acc, k, hk, _, _ => by
    cases k with
    | zero => omega
    | succ k =>
      unfold impl_picksOf.l0
      rw [if_neg (by simp)]
      rfl
  | s :: r, done, acc, k, hk, ha, hd => by
    cases k with
    | zero => omega
    | succ k =>
      have hrd : rdOf ByteArray.empty (done ++ s :: r) (done.length : Int) = s := by unfold rdOf; simp
      unfold impl_picksOf.l0
      simp only [List.length_cons] at hk ha hd
      have ih := fun n => picks_all r (done ++ [s]) (acc ++ [n]) k (by omega) (by simp; omega) (by simp; omega)
      have e1 : done ++ [s] ++ r = done ++ s :: r := by simp
      have e2 : wrap64 ((done.length : Int) + 1) = ((done ++ [s]).length : Int) := by rw [wrap_id _ (by omega) (by omega)]; simp
      rw [if_pos (by simp <;> omega), if_pos (by omega), if_pos (by simp <;> omega), hrd, client_f, Option.bind_some, e2]
      rw [e1] at ih
      unfold picksG pickF
      by_cases hd100 : s.toList = [100]
      · rw [if_pos hd100, if_pos hd100, if_pos (by omega)]
        exact ih 8
      · rw [if_neg hd100, if_neg hd100]
        by_cases hc : (clientF s).2 = true
        · rw [if_pos hc, if_pos hc, if_pos (by omega)]
          exact ih _
        · rw [if_neg hc, if_neg hc]
theorem picks_f (l : List ByteArray) (h : l.length < 17592186044416) : impl_picksOf.f (l.length + 1) l = some (picksG [] l) := by
  have := picks_all l [] [] (l.length + 1) (by omega) (by simpa using h) (by simpa using h)
  simpa [impl_picksOf.f] using this
end Go.Proofs.YtfadnchkododdaaDoor.Ps
