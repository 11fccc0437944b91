/- Splitting and cutting at one byte, over lists: the library's words against plain recursion. -/
import Derived.Lib.Strings
import Derived.Lib.IndexMore
import Derived.Lib.Split
import Derived.Lib.SplitLaws
namespace Go.Proofs.YtfadnchkododdaaDoor.Ps
open Go
set_option linter.unusedVariables false
set_option linter.unusedSimpArgs false
theorem index_nil {old : List UInt8} (h : old ≠ []) : Lib.index [] old = -1 := by
  cases old with
  | nil => exact absurd rfl h
  | cons a t => rfl
theorem index_hit {s old : List UInt8} (h0 : old ≠ []) (h : old.isPrefixOf s = true) : Lib.index s old = 0 := by
  cases s with
  | nil => cases old with
    | nil => exact absurd rfl h0
    | cons a t => simp at h
  | cons b l => unfold Lib.index; rw [if_pos h]
theorem index_skip {b : UInt8} {l old : List UInt8} (h : old.isPrefixOf (b :: l) = false) : Lib.index (b :: l) old = if Lib.index l old = -1 then -1 else Lib.index l old + 1 := by
  rw [show Lib.index (b :: l) old = (if old.isPrefixOf (b :: l) then 0 else if Lib.index l old == -1 then -1 else Lib.index l old + 1) from rfl, h]
  by_cases hm : Lib.index l old = -1 <;> simp [hm]
theorem countFrom_skip {b : UInt8} {l old : List UInt8} (h : old.isPrefixOf (b :: l) = false) (f : Nat) : Lib.countFrom old (f + 1) (b :: l) = Lib.countFrom old (f + 1) l := by
  have hg := Lib.index_ge l old
  unfold Lib.countFrom
  rw [index_skip h]
  by_cases hm : Lib.index l old = -1
  · simp [hm]
  · obtain ⟨i, hi⟩ : ∃ i : Nat, Lib.index l old = i := ⟨(Lib.index l old).toNat, by omega⟩
    have e1 : ((i : Int) + 1 == -1) = false := by rw [beq_eq_false_iff_ne]; omega
    have e2 : ((i : Int) == -1) = false := by rw [beq_eq_false_iff_ne]; omega
    have e3 : ((i : Int) + 1).toNat = i + 1 := by omega
    rw [if_neg hm, hi, e1, e2, e3]
    simp [Nat.add_right_comm i 1 old.length]
theorem countFrom_take {s old : List UInt8} (h0 : old ≠ []) (h : old.isPrefixOf s = true) (f : Nat) : Lib.countFrom old (f + 1) s = Lib.countFrom old f (s.drop old.length) + 1 := by
  have e : Lib.countFrom old (f + 1) s = if Lib.index s old == -1 then 0 else 1 + Lib.countFrom old f (s.drop ((Lib.index s old).toNat + old.length)) := rfl
  rw [e, index_hit h0 h]
  have e1 : ((0 : Int) == -1) = false := by decide
  rw [e1]
  simp [Nat.add_comm 1]
theorem countFrom_nil {old : List UInt8} (h0 : old ≠ []) (f : Nat) : Lib.countFrom old f [] = 0 := by
  cases f with
  | zero => rfl
  | succ f => unfold Lib.countFrom; rw [index_nil h0]; rfl

/-- A text's pieces between the bytes k0. -/
def splitC (k0 : UInt8) : List UInt8 → List (List UInt8)
  | [] => [[]]
  | c :: l => if c = k0 then [] :: splitC k0 l else match splitC k0 l with
    | [] => [[c]]
    | h :: t => (c :: h) :: t
theorem splitC_ne (k0 : UInt8) : ∀ l, splitC k0 l ≠ []
  | [] => by simp [splitC]
  | c :: l => by
    unfold splitC
    split
    · simp
    · split <;> simp
theorem splitK_eq (k0 : UInt8) : ∀ n (l : List UInt8) f, l.length ≤ n → l.length < f → Lib.splitK [k0] 0 (Lib.countFrom [k0] f l) l = splitC k0 l
  | 0, l, f, hn, hf => by
    have : l = [] := List.length_eq_zero_iff.1 (by omega)
    subst this
    rw [countFrom_nil (by simp)]
    rfl
  | n + 1, [], f, hn, hf => by rw [countFrom_nil (by simp)]; rfl
  | n + 1, c :: l, f, hn, hf => by
    obtain ⟨f, rfl⟩ : ∃ g, f = g + 1 := ⟨f - 1, by omega⟩
    by_cases h : c = k0
    · replace h := h.symm
      subst h
      have hp : [k0].isPrefixOf (k0 :: l) = true := by simp
      rw [countFrom_take (by simp) hp]
      unfold Lib.splitK splitC
      rw [index_hit (by simp) hp, if_pos rfl]
      have e1 : ((0 : Int) == -1) = false := by decide
      rw [e1]
      have ih := splitK_eq k0 n l f (by simpa using hn) (by simp at hf; omega)
      simpa using ih
    · have hp : [k0].isPrefixOf (c :: l) = false := by simp [List.isPrefixOf]; exact fun e => h e.symm
      have ih := splitK_eq k0 n l (f + 1) (by simpa using hn) (by simp at hf; omega)
      rw [countFrom_skip hp]
      unfold splitC
      rw [if_neg h, ← ih]
      generalize Lib.countFrom [k0] (f + 1) l = k
      cases k with
      | zero => rfl
      | succ k =>
        have hg := Lib.index_ge l [k0]
        unfold Lib.splitK
        rw [index_skip hp]
        by_cases hm : Lib.index l [k0] = -1
        · simp [hm]
        · obtain ⟨i, hi⟩ : ∃ i : Nat, Lib.index l [k0] = i := ⟨(Lib.index l [k0]).toNat, by omega⟩
          have e1 : ((i : Int) + 1 == -1) = false := by rw [beq_eq_false_iff_ne]; omega
          have e2 : ((i : Int) == -1) = false := by rw [beq_eq_false_iff_ne]; omega
          have e3 : ((i : Int) + 1).toNat = i + 1 := by omega
          rw [if_neg hm, hi, e1, e2, e3]
          simp [Nat.add_right_comm i 1]
theorem split_map (k0 : UInt8) (s : ByteArray) : (Lib.splitB ⟨#[k0]⟩ 0 (Lib.countB s ⟨#[k0]⟩) s).map (·.data.toList) = splitC k0 s.data.toList := by
  rw [Lib.splitB_data]
  exact splitK_eq k0 s.data.toList.length s.data.toList (s.data.toList.length + 1) (Nat.le_refl _) (Nat.lt_succ_self _)
/-- What stands before the first byte k0, what stands behind it, whether there is one. -/
def cutC (k0 : UInt8) : List UInt8 → List UInt8 × List UInt8 × Bool
  | [] => ([], [], false)
  | c :: l => if c = k0 then ([], l, true) else (c :: (cutC k0 l).1, (cutC k0 l).2.1, (cutC k0 l).2.2)
theorem cut_eq (k0 : UInt8) : ∀ l, Lib.cut l [k0] = cutC k0 l
  | [] => by unfold Lib.cut cutC; rw [index_nil (by simp)]; rfl
  | c :: l => by
    have ih := cut_eq k0 l
    unfold cutC
    by_cases h : c = k0
    · replace h := h.symm
      subst h
      rw [if_pos rfl]
      unfold Lib.cut
      rw [index_hit (by simp) (by simp)]
      simp
    · have hp : [k0].isPrefixOf (c :: l) = false := by simp [List.isPrefixOf]; exact fun e => h e.symm
      rw [if_neg h, ← ih]
      have hg := Lib.index_ge l [k0]
      unfold Lib.cut
      rw [index_skip hp]
      by_cases hm : Lib.index l [k0] = -1
      · rw [if_pos hm, hm]; simp
      · obtain ⟨i, hi⟩ : ∃ i : Nat, Lib.index l [k0] = i := ⟨(Lib.index l [k0]).toNat, by omega⟩
        rw [if_neg hm, hi, if_pos (by omega), if_pos (by omega)]
        have e3 : ((i : Int) + 1).toNat = i + 1 := by omega
        rw [e3]
        simp [Nat.add_right_comm i 1]
end Go.Proofs.YtfadnchkododdaaDoor.Ps
