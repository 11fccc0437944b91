/- spec.ParseScript over its print: what it answers, by the lines. -/
import Derived.Test.YtfadnchkododdaaDoorPickEq
namespace Go.Proofs.YtfadnchkododdaaDoor.Ps
open Go Go.RowKit Go.Proofs.YtfadnchkododdaaDoorW.PrintWords Go.Proofs.YtfadnchkododdaaDoor.PPs
set_option linter.unusedVariables false
set_option linter.unusedSimpArgs false

abbrev docP : List UInt8 := [100, 111, 99, 32]
/-- What the lines of a script make. -/
def loopF : List ByteArray → Nat → Bool → ByteArray → List S46 → List Int → ByteArray × List S46 × List Int × Int × Int
  | [], _, begun, doc, cs, ps => if begun = true then (doc, cs, ps, 0, 0) else (⟨#[]⟩, [], [], 3, 0)
  | x :: r, i, begun, doc, cs, ps =>
    if x.data.toList = [] then loopF r (i + 1) begun doc cs ps
    else if begun = true then (if (lineF x.data.toList cs ps).2.2 = true then loopF r (i + 1) true doc (lineF x.data.toList cs ps).1 (lineF x.data.toList cs ps).2.1 else (⟨#[]⟩, [], [], 2, (i : Int) + 1))
    else if Lib.hasPrefix x.data.toList docP = true then loopF r (i + 1) true (bb (Lib.trimPrefix x.data.toList docP)) cs ps else (⟨#[]⟩, [], [], 2, (i : Int) + 1)
theorem script_loop : ∀ (r done : List ByteArray) (k : Nat) (begun : Bool) (doc : ByteArray) (cs : List S46) (ps : List Int), (∀ x ∈ r, x.size ≤ 1048576) → r.length + 1048700 ≤ k → cs.length + r.length ≤ 10000000 → ps.length ≤ done.length * 1048576 → done.length + r.length ≤ 10000000 →
    spec_ParseScript.l0 k begun (done ++ r) (done.length : Int) doc cs ps = some (loopF r done.length begun doc cs ps)
  | [], done, k, begun, doc, cs, ps, _, hk, _, _, _ => by
    obtain ⟨k, rfl⟩ : ∃ j, k = j + 1 := ⟨k - 1, by omega⟩
    rw [spec_ParseScript.l0, if_neg (by simp), loopF]
    split <;> rfl
  | x :: r, done, k, begun, doc, cs, ps, hM, hk, hcs, hps, hd => by
    obtain ⟨k, rfl⟩ : ∃ j, k = j + 1 := ⟨k - 1, by omega⟩
    simp only [List.length_cons] at hk hcs hd
    have hrd : rdOf ByteArray.empty (done ++ x :: r) (done.length : Int) = x := by unfold rdOf; simp
    have e1 : done ++ x :: r = (done ++ [x]) ++ r := by simp
    have e2 : wrap64 ((done.length : Int) + 1) = ((done ++ [x]).length : Int) := by rw [wrapn _ (by omega) (by omega)]; simp
    have e3 : wrap64 ((done.length : Int) + 1) = (done.length : Int) + 1 := wrapn _ (by omega) (by omega)
    have e4 : (done ++ [x]).length = done.length + 1 := by simp
    have hx := hM x (by simp)
    have hxl : x.data.toList.length = x.size := by rw [Array.length_toList]; rfl
    have ih := fun (begun : Bool) (doc : ByteArray) (cs : List S46) (ps : List Int) h1 h2 => script_loop r (done ++ [x]) k begun doc cs ps (fun y hy => hM y (by simp [hy])) (by omega) h1 h2 (by omega)
    rw [e4] at ih
    have hm : ps.length + 1048576 ≤ (done.length + 1) * 1048576 := by rw [Nat.add_mul]; exact Nat.add_le_add hps (Nat.le_refl _)
    have hm0 : ps.length ≤ (done.length + 1) * 1048576 := Nat.le_trans (Nat.le_add_right _ _) hm
    generalize (done.length + 1) * 1048576 = MM at ih hm hm0
    rw [spec_ParseScript.l0, if_pos (by simp <;> omega), if_pos (by omega), hrd, Lib.toList_data, loopF]
    by_cases h0 : x.data.toList = []
    · rw [if_pos h0, if_pos h0, e2, e1, e4]
      exact ih begun doc cs ps (by omega) hm0
    · rw [if_neg h0, if_neg h0]
      cases begun with
      | true =>
        rw [if_pos rfl, if_pos rfl]
        have hcf : spec_l6Call.f k x = some (callS x.data.toList) := by
          have h := call_f (k - 16) x.data.toList (by omega)
          rw [bb_of, show k - 16 + 16 = k by omega] at h
          exact h
        have hpf : spec_l6Picks.f k x = some (picksS x.data.toList) := by
          have h := pick_f k x.data.toList (by omega) (by omega)
          rwa [bb_of] at h
        rw [hcf, Option.bind_some, hpf, Option.bind_some]
        have hpl := picksS_len x.data.toList
        rcases line_eq x.data.toList cs ps with h | h | h
        · rw [if_pos h.1, h.2, if_pos (by omega), if_pos rfl, e2, e1, e4]
          exact ih true doc _ ps (by simp; omega) hm0
        · rw [if_neg (by rw [h.1]; simp), if_pos h.2.1, h.2.2, if_pos (by omega), if_pos rfl, e2, e1, e4]
          exact ih true doc cs _ (by omega) (by simp; omega)
        · rw [if_neg (by rw [h.1]; simp), if_neg (by rw [h.2.1]; simp), if_neg (by rw [h.2.2]; simp), e3]
      | false =>
        rw [if_neg (by simp), if_neg (by simp)]
        have hr := rest_f x.data.toList docP (by omega) (by decide)
        rw [bb_of] at hr
        rw [show (⟨#[100, 111, 99, 32]⟩ : ByteArray) = bb docP from rfl, hr, Option.bind_some]
        unfold Lib.trimPrefix Lib.hasPrefix
        by_cases hp : docP.isPrefixOf x.data.toList = true
        · simp only [if_pos hp, if_true]
          rw [e2, e1, e4]
          exact ih true _ cs ps (by omega) hm0
        · simp only [if_neg hp]
          rw [if_neg (by simp), e3]
theorem splitB_size (sep : ByteArray) (h1 : 1 ≤ sep.size) : ∀ (k : Nat) (s : ByteArray) (t : ByteArray), t ∈ Lib.splitB sep 0 k s → t.size ≤ s.size
  | 0, s, t, h => by
    rw [Lib.splitB_zero] at h
    rcases List.mem_cons.1 h with rfl | h
    · exact Nat.le_refl _
    · cases h
  | k + 1, s, t, h => by
    by_cases hm : Lib.indexB s sep = -1
    · rw [Lib.splitB_miss sep 0 (k + 1) s hm] at h
      rcases List.mem_cons.1 h with rfl | h
      · exact Nat.le_refl _
      · cases h
    · have hge2 : -1 ≤ Lib.indexB s sep := Lib.index_ge _ _
      obtain ⟨i, hi⟩ : ∃ i : Nat, Lib.indexB s sep = i := ⟨(Lib.indexB s sep).toNat, by omega⟩
      rw [Lib.splitB_hit sep 0 k s i hi] at h
      rcases List.mem_cons.1 h with rfl | h
      · rw [ByteArray.size_extract]; omega
      · have := splitB_size sep h1 k _ t h
        rw [ByteArray.size_extract] at this
        omega
/-- What a script's text reads as. -/
def scriptF (a : ByteArray) : ByteArray × List S46 × List Int × Int × Int := if 20000 < a.size then (⟨#[]⟩, [], [], 1, 0) else loopF (Lib.splitB ⟨#[10]⟩ 0 (Lib.countB a ⟨#[10]⟩) a) 0 false ⟨#[]⟩ [] []
theorem lines_len (a : ByteArray) : (Lib.splitB ⟨#[10]⟩ 0 (Lib.countB a ⟨#[10]⟩) a).length ≤ a.size + 1 := by
  have hl := Lib.splitB_all ⟨#[10]⟩ (by show 1 ≤ 1; exact Nat.le_refl _) 0 (Lib.countB a ⟨#[10]⟩) a rfl
  have hle := Lib.countB_le ⟨#[10]⟩ (by show 1 ≤ 1; exact Nat.le_refl _) a.size a (Nat.le_refl _)
  omega
theorem script_f (a : ByteArray) : spec_ParseScript.f 2000000 a = some (scriptF a) := by
  unfold spec_ParseScript.f scriptF
  by_cases h : 20000 < a.size
  · rw [if_pos (by omega), if_pos h]
  · have hln := lines_len a
    have hlf : spec_l6Lines.f 2000000 a = some (Lib.splitB ⟨#[10]⟩ 0 (Lib.countB a ⟨#[10]⟩) a) := by
      exact at_rounds (g := fun k => spec_l6Lines.f k a) (fun k => spec_l6Lines.mono a k) (k := a.size + 2) (by omega) (lines_f a (by omega))
    rw [if_neg (by omega), if_neg h, hlf, Option.bind_some]
    have := script_loop (Lib.splitB ⟨#[10]⟩ 0 (Lib.countB a ⟨#[10]⟩) a) [] 2000000 false ⟨#[]⟩ [] [] (fun x hx => by have := splitB_size _ (by show 1 ≤ 1; exact Nat.le_refl _) _ _ _ hx; omega) (by omega) (by simp; omega) (by simp) (by simp; omega)
    exact this
end Go.Proofs.YtfadnchkododdaaDoor.Ps
