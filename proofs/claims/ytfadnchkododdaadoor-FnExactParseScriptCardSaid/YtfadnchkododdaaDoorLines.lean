/- spec.l6Lines over its print: the text's pieces between the bytes 10. -/
import Derived.Test.YtfadnchkododdaaDoorPPsx1
import Derived.Test.YtfadnchkododdaaDoorSplit
namespace Go.Proofs.YtfadnchkododdaaDoor.Ps
open Go Go.RowKit Go.Proofs.YtfadnchkododdaaDoorW.PrintWords Go.Proofs.YtfadnchkododdaaDoor.PPs
set_option linter.unusedVariables false
set_option linter.unusedSimpArgs false

abbrev bb (l : List UInt8) : ByteArray := ⟨l.toArray⟩
theorem bb_size (l : List UInt8) : (bb l).size = l.length := by show l.toArray.size = _; simp
theorem bb_data (l : List UInt8) : (bb l).data.toList = l := by simp
theorem bb_list (l : List UInt8) : (bb l).toList = l := by rw [Lib.toList_data]
theorem bb_of (s : ByteArray) : bb s.data.toList = s := Lib.mk_data s
theorem bb_ext (l : List UInt8) (a b : Nat) : (bb l).extract a b = bb ((l.drop a).take (b - a)) := by
  rw [← bb_of ((bb l).extract a b), ← Lib.toList_data, Lib.extract_toList]
theorem bb_end (l : List UInt8) (a : Nat) : (bb l).extract a (bb l).size = bb (l.drop a) := by
  rw [bb_ext, List.take_of_length_le (by rw [bb_size, List.length_drop]; exact Nat.le_refl _)]
theorem bb_bt (l : List UInt8) (i : Nat) : bt (bb l) (i : Int) = ((l.getD i 0).toNat : Int) := by
  unfold bt
  rw [Int.toNat_natCast]
  by_cases h : i < l.length
  · rw [dif_pos (by rw [bb_size]; exact h)]
    have : (bb l)[i]'(by rw [bb_size]; exact h) = l[i] := by
      show l.toArray[i]'(by simpa using h) = l[i]
      simp
    rw [this, List.getD_eq_getElem?_getD, List.getElem?_eq_getElem h]
    rfl
  · rw [dif_neg (by rw [bb_size]; exact h), List.getD_eq_getElem?_getD, List.getElem?_eq_none (by omega)]
    rfl
theorem wrapn (x : Int) (h0 : 0 ≤ x) (h1 : x ≤ 9223372036854775807) : wrap64 x = x := by unfold wrap64; omega
theorem drop_at (l : List UInt8) (i : Nat) (h : i < l.length) : l.drop i = l.getD i 0 :: l.drop (i + 1) := by
  rw [List.getD_eq_getElem?_getD, List.getElem?_eq_getElem h, Option.getD_some]
  exact List.drop_eq_getElem_cons h
theorem u8i (c d : UInt8) (n : Int) (hn : (d.toNat : Int) = n) : ((c.toNat : Int) = n) ↔ c = d := by
  constructor
  · intro h
    apply UInt8.toNat_inj.1
    omega
  · rintro rfl
    exact hn
/-- The pieces, with what has been read of the first one put before it. -/
def headed (p : List UInt8) : List (List UInt8) → List ByteArray
  | [] => []
  | h :: t => bb (p ++ h) :: t.map bb
theorem lines_all (l : List UInt8) (hs : l.length ≤ 1048576) : ∀ (n k f i : Nat) (out : List ByteArray), i + n = l.length → f ≤ i → n + 1 < k → out.length + n < 8796093022207 →
    spec_l6Lines.l0 k (bb l) out (f : Int) (i : Int) = some (out ++ headed ((l.drop f).take (i - f)) (splitC 10 (l.drop i)))
  | 0, k, f, i, out, hi, hf, hk, ho => by
    obtain ⟨k, rfl⟩ : ∃ j, k = j + 2 := ⟨k - 2, by omega⟩
    have e : wrap64 ((i : Int) + 1) = ((i + 1 : Nat) : Int) := by rw [wrapn _ (by omega) (by omega)]; omega
    unfold spec_l6Lines.l0
    rw [bb_size, if_pos (by omega), if_pos (by omega), if_pos (by omega), if_pos (by omega), if_pos (by omega), e]
    unfold spec_l6Lines.l0
    rw [bb_size, if_neg (by omega), Int.toNat_natCast, Int.toNat_natCast, bb_ext, List.drop_of_length_le (i := i) (by omega)]
    simp [splitC, headed]
  | n + 1, k, f, i, out, hi, hf, hk, ho => by
    obtain ⟨k, rfl⟩ : ∃ j, k = j + 1 := ⟨k - 1, by omega⟩
    have e : wrap64 ((i : Int) + 1) = ((i + 1 : Nat) : Int) := by rw [wrapn _ (by omega) (by omega)]; omega
    have hil : i < l.length := by omega
    unfold spec_l6Lines.l0
    rw [bb_size, if_pos (by omega), if_neg (by omega), if_pos (by omega), if_pos (by omega), bb_bt, e, drop_at l i hil]
    by_cases hc : l.getD i 0 = 10
    · rw [if_pos ((u8i _ 10 10 rfl).2 hc), if_pos (by omega), if_pos (by omega), if_pos (by omega), Int.toNat_natCast, Int.toNat_natCast, bb_ext, hc,
        lines_all l hs n k (i + 1) (i + 1) _ (by omega) (Nat.le_refl _) (by omega) (by simp; omega)]
      have hn := splitC_ne 10 (l.drop (i + 1))
      rw [show splitC 10 (10 :: l.drop (i + 1)) = [] :: splitC 10 (l.drop (i + 1)) from by rw [splitC, if_pos rfl]]
      cases hsp : splitC 10 (l.drop (i + 1)) with
      | nil => exact absurd hsp hn
      | cons h t => simp [headed]
    · rw [if_neg (fun h => hc ((u8i _ 10 10 rfl).1 h)), lines_all l hs n k f (i + 1) out (by omega) (by omega) (by omega) (by omega)]
      have hn := splitC_ne 10 (l.drop (i + 1))
      have hg : (l.drop f)[i - f]? = some (l.getD i 0) := by
        rw [List.getElem?_drop, show f + (i - f) = i by omega, List.getD_eq_getElem?_getD, List.getElem?_eq_getElem hil]
        rfl
      have ht : (l.drop f).take (i + 1 - f) = (l.drop f).take (i - f) ++ [l.getD i 0] := by
        rw [show i + 1 - f = (i - f) + 1 by omega, List.take_add_one, hg]
        rfl
      rw [ht]
      rw [show splitC 10 (l.getD i 0 :: l.drop (i + 1)) = (match splitC 10 (l.drop (i + 1)) with | [] => [[l.getD i 0]] | h :: t => (l.getD i 0 :: h) :: t) from by rw [splitC, if_neg hc]; rfl]
      cases hsp : splitC 10 (l.drop (i + 1)) with
      | nil => exact absurd hsp hn
      | cons h t => simp [headed]
/-- The reference's lines are the library's. -/
theorem lines_f (s : ByteArray) (hs : s.size ≤ 1048576) : spec_l6Lines.f (s.size + 2) s = some (Lib.splitB ⟨#[10]⟩ 0 (Lib.countB s ⟨#[10]⟩) s) := by
  have hl : s.data.toList.length = s.size := by rw [Array.length_toList]; rfl
  have h := lines_all s.data.toList (by omega) s.size (s.size + 2) 0 0 [] (by omega) (Nat.le_refl _) (by omega) (by simp; omega)
  rw [bb_of] at h
  unfold spec_l6Lines.f
  refine h.trans ?_
  have hn := splitC_ne 10 s.data.toList
  have hm := split_map 10 s
  rw [List.drop_zero, List.nil_append]
  have e : ∀ L : List ByteArray, (L.map (·.data.toList)).map bb = L := fun L => by
    rw [List.map_map]
    conv => rhs; rw [← List.map_id L]
    exact List.map_congr_left (fun x _ => bb_of x)
  rw [← e (Lib.splitB ⟨#[10]⟩ 0 (Lib.countB s ⟨#[10]⟩) s), hm]
  cases hsp : splitC 10 s.data.toList with
  | nil => exact absurd hsp hn
  | cons a t => simp [headed]
end Go.Proofs.YtfadnchkododdaaDoor.Ps
