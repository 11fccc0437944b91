/- Plain laws of the printed eqScript, markScript, heldScript: no program in sight. -/
import Derived.Test.YtfadnchkododdaaDoorZLaw6
namespace Go.Proofs.YtfadnchkododdaaDoor.Ps
open Go Go.RowKit Go.Proofs.YtfadnchkododdaaDoorW.PrintWords Go.Proofs.YtfadnchkododdaaDoor.PPs
set_option linter.unusedVariables false
set_option linter.unusedSimpArgs false

/-! ### the text of a mark -/
def mt (x : Int) : ByteArray := (laws_markText.f 64 x).getD ByteArray.empty
theorem strOne (a : Int) : (strOfNums [a]).size = 1 := rfl
theorem mt_loop : ∀ (n : Nat) (x : Int) (acc : ByteArray), 0 ≤ x → x < 10 ^ n → x ≤ 4611686018427387904 → acc.size + n + 1 ≤ 9223372036854775807 → ∃ t, laws_markText.l0 (n + 1) x acc = some t
  | 0, x, acc, h0, h1, hx, h2 => by
    have : x = 0 := by simp at h1; omega
    subst this
    simp only [laws_markText.l0]
    rw [if_neg (by omega), if_pos (by omega)]
    exact ⟨_, rfl⟩
  | n + 1, x, acc, h0, h1, hx, h2 => by
    simp only [laws_markText.l0]
    by_cases hp : x > 0
    · rw [if_pos hp]
      simp only [Option.bind_some]
      rw [if_pos (by rw [strOne]; omega)]
      have hd : Int.tdiv x 10 = x / 10 := Int.tdiv_eq_ediv_of_nonneg h0
      have hw : wrap64 (Int.tdiv x 10) = x / 10 := by rw [hd]; unfold wrap64; omega
      rw [hw]
      exact mt_loop n _ _ (by omega) (by rw [Int.pow_succ] at h1; omega) (by omega) (by rw [ByteArray.size_append, strOne]; omega)
    · rw [if_neg hp, if_pos (by omega)]
      exact ⟨_, rfl⟩
theorem mt_some (x : Int) (h : x ≤ 4611686018427387904) : laws_markText.f 64 x = some (mt x) := by
  have : ∃ t, laws_markText.f 64 x = some t := by
    unfold laws_markText.f
    by_cases h0 : x ≤ 0
    · rw [if_pos h0]; exact ⟨_, rfl⟩
    · rw [if_neg h0]
      obtain ⟨t, ht⟩ := mt_loop 63 x ⟨#[]⟩ (by omega) (by omega) h (by show 0 + 63 + 1 ≤ _; omega)
      exact ⟨t, ht⟩
  obtain ⟨t, ht⟩ := this
  rw [mt, ht]
  rfl
/-! ### equality -/
theorem eqCalls_loop (l : List S46) (hl : l.length ≤ 1099511627776) : ∀ (d i : Nat), l.length - i = d → i ≤ l.length → Ev (fun k => laws_eqCallS.l0 k l l (i : Int)) true
  | 0, i, hd, hi => by
    refine Ev.step (f := fun _ => some true) (fun k => ?_) (Ev.now true)
    simp only [laws_eqCallS.l0]
    rw [if_neg (by omega)]
  | d + 1, i, hd, hi => by
    refine Ev.step (f := fun k => laws_eqCallS.l0 k l l ((i + 1 : Nat) : Int)) (fun k => ?_) (eqCalls_loop l hl d (i + 1) (by omega) (by omega))
    simp only [laws_eqCallS.l0]
    rw [if_pos (by omega), if_pos (by omega), if_pos (by omega), show wrap64 ((i : Int) + 1) = ((i + 1 : Nat) : Int) by unfold wrap64; omega]
    simp [laws_eqCall.f]
theorem eqInts_loop (l : List Int) (hl : l.length ≤ 1099511627776) : ∀ (d i : Nat), l.length - i = d → i ≤ l.length → Ev (fun k => laws_eqIntS.l0 k l l (i : Int)) true
  | 0, i, hd, hi => by
    refine Ev.step (f := fun _ => some true) (fun k => ?_) (Ev.now true)
    simp only [laws_eqIntS.l0]
    rw [if_neg (by omega)]
  | d + 1, i, hd, hi => by
    refine Ev.step (f := fun k => laws_eqIntS.l0 k l l ((i + 1 : Nat) : Int)) (fun k => ?_) (eqInts_loop l hl d (i + 1) (by omega) (by omega))
    simp only [laws_eqIntS.l0]
    rw [if_pos (by omega), if_pos (by omega), if_pos (by omega), if_pos trivial, show wrap64 ((i : Int) + 1) = ((i + 1 : Nat) : Int) by unfold wrap64; omega]
theorem eqScript_refl (d : ByteArray) (cs : List S46) (ps : List Int) (h1 : cs.length ≤ 1099511627776) (h2 : ps.length ≤ 1099511627776) : Ev (fun k => laws_eqScript.f k d cs ps d cs ps) true := by
  have e : (fun k => laws_eqScript.f k d cs ps d cs ps) = fun k => (laws_eqCallS.l0 k cs cs 0).bind fun t => if t = true then ((laws_eqIntS.l0 k ps ps 0).bind fun t => if t = true then some true else some false) else some false := by
    funext k
    simp [laws_eqScript.f, laws_eqCallS.f, laws_eqIntS.f]
  rw [e]
  refine Ev.bind (eqCalls_loop cs h1 _ 0 rfl (Nat.zero_le _)) ?_
  simp only [if_true]
  refine Ev.bind (eqInts_loop ps h2 _ 0 rfl (Nat.zero_le _)) ?_
  simp only [if_true]
  exact Ev.now true
/-! ### marks -/
def mkC : Int → List S46 → List S46
  | _, [] => []
  | a, _ :: t => ⟨a, a + 1, mt (a + 2), a + 3⟩ :: mkC (a + 4) t
def mkI : Int → List Int → List Int
  | _, [] => []
  | a, _ :: t => a :: mkI (a + 1) t
theorem mkC_len : ∀ (a : Int) (l : List S46), (mkC a l).length = l.length
  | _, [] => rfl
  | a, _ :: t => by simp [mkC, mkC_len (a + 4) t]
theorem mkI_len : ∀ (a : Int) (l : List Int), (mkI a l).length = l.length
  | _, [] => rfl
  | a, _ :: t => by simp [mkI, mkI_len (a + 1) t]
theorem rdC_mid (p q : List S46) (c : S46) : rd_T46 (p ++ c :: q) (p.length : Int) = c := by simp [rd_T46]
theorem set_mid {α : Type} (p q : List α) (c d : α) : (p ++ c :: q).set p.length d = p ++ d :: q := by simp
theorem markC_loop : ∀ (q p : List S46) (a : Int), 0 ≤ a → a + 4 * q.length ≤ 4611686018427387904 → p.length + q.length ≤ 4611686018427387904 → Ev (fun k => laws_markCallS.l0 k (p ++ q) a (p.length : Int)) (a + 4 * q.length, p ++ mkC a q)
  | [], p, a, h0, h1, h2 => by
    refine Ev.step (f := fun _ => some (a, p)) (fun k => ?_) (by simpa [mkC] using Ev.now (a, p))
    simp [laws_markCallS.l0]
  | x :: q, p, a, h0, h1, h2 => by
    simp only [List.length_cons] at h1 h2
    have ih := markC_loop q (p ++ [⟨a, a + 1, mt (a + 2), a + 3⟩]) (a + 4) (by omega) (by omega) (by simp; omega)
    have e2 : (((p ++ [(⟨a, a + 1, mt (a + 2), a + 3⟩ : S46)]).length : Nat) : Int) = (p.length : Int) + 1 := by simp
    rw [e2, List.append_assoc, List.append_assoc] at ih
    have hlen : ((p ++ x :: q).length : Int) = p.length + (q.length + 1) := by simp
    obtain ⟨K0, hK0⟩ := ih
    refine ⟨K0 + 65, fun k hk => ?_⟩
    obtain ⟨k, rfl⟩ : ∃ m, k = m + 1 := ⟨k - 1, by omega⟩
    have c0 : (0 : Int) ≤ (p.length : Int) := by omega
    have c1 : (p.length : Int) < ((p ++ x :: q).length : Int) := by omega
    have ck : 64 ≤ k := by omega
    have cK : K0 ≤ k := by omega
    have ca : a + 2 ≤ 4611686018427387904 := by omega
    have e3 : (a + 4 * (((x :: q).length : Nat) : Int)) = a + 4 + 4 * (q.length : Int) := by rw [List.length_cons]; omega
    have w1 : wrap64 (a + 1) = a + 1 := by unfold wrap64; omega
    have w2 : wrap64 (a + 1 + 1) = a + 2 := by unfold wrap64; omega
    have w3 : wrap64 (a + 2 + 1) = a + 3 := by unfold wrap64; omega
    have w4 : wrap64 (a + 3 + 1) = a + 4 := by unfold wrap64; omega
    have w5 : wrap64 ((p.length : Int) + 1) = (p.length : Int) + 1 := by unfold wrap64; omega
    have hmt : laws_markText.f k (a + 2) = some (mt (a + 2)) := at_rounds (g := fun k => laws_markText.f k (a + 2)) (fun k => laws_markText.mono (a + 2) k) ck (mt_some (a + 2) ca)
    simp only [laws_markCallS.l0, w1, w2, w3, w4, w5]
    rw [if_pos c1, if_pos c0, hmt]
    simp only [Option.bind_some, Int.toNat_natCast, set_mid, rdC_mid]
    have := hK0 k cK
    simp only [List.singleton_append] at this
    have e4 : mkC a (x :: q) = ⟨a, a + 1, mt (a + 2), a + 3⟩ :: mkC (a + 4) q := rfl
    rw [this, e3, e4]
theorem markI_loop : ∀ (q p : List Int) (a : Int), 0 ≤ a → a + q.length ≤ 4611686018427387904 → p.length + q.length ≤ 4611686018427387904 → Ev (fun k => laws_markIntS.l0 k (p ++ q) a (p.length : Int)) (a + q.length, p ++ mkI a q)
  | [], p, a, h0, h1, h2 => by
    refine Ev.step (f := fun _ => some (a, p)) (fun k => ?_) (by simpa [mkI] using Ev.now (a, p))
    simp [laws_markIntS.l0]
  | x :: q, p, a, h0, h1, h2 => by
    simp only [List.length_cons] at h1 h2
    have ih := markI_loop q (p ++ [a]) (a + 1) (by omega) (by omega) (by simp; omega)
    have e2 : (((p ++ [a]).length : Nat) : Int) = (p.length : Int) + 1 := by simp
    rw [e2, List.append_assoc, List.append_assoc] at ih
    have hlen : ((p ++ x :: q).length : Int) = p.length + (q.length + 1) := by simp
    refine Ev.step (f := fun k => laws_markIntS.l0 k (p ++ a :: q) (a + 1) ((p.length : Int) + 1)) (fun k => ?_) ?_
    · have w1 : wrap64 (a + 1) = a + 1 := by unfold wrap64; omega
      have w5 : wrap64 ((p.length : Int) + 1) = (p.length : Int) + 1 := by unfold wrap64; omega
      simp only [laws_markIntS.l0, w1, w5]
      rw [if_pos (by omega), if_pos (by omega), Int.toNat_natCast, set_mid]
    · have e3 : (a + (((x :: q).length : Nat) : Int)) = a + 1 + (q.length : Int) := by rw [List.length_cons]; omega
      have e4 : mkI a (x :: q) = a :: mkI (a + 1) q := rfl
      rw [e3, e4]
      simpa using ih
theorem heldC_loop : ∀ (q p : List S46) (a : Int), 0 ≤ a → a + 4 * q.length ≤ 4611686018427387904 → p.length + q.length ≤ 4611686018427387904 → Ev (fun k => laws_heldCallS.l0 k (p ++ mkC a q) a (p.length : Int)) (a + 4 * q.length)
  | [], p, a, h0, h1, h2 => by
    refine Ev.step (f := fun _ => some a) (fun k => ?_) (by simpa [mkC] using Ev.now a)
    simp [laws_heldCallS.l0, mkC]
  | x :: q, p, a, h0, h1, h2 => by
    simp only [List.length_cons] at h1 h2
    have ih := heldC_loop q (p ++ [⟨a, a + 1, mt (a + 2), a + 3⟩]) (a + 4) (by omega) (by omega) (by simp; omega)
    have e2 : (((p ++ [(⟨a, a + 1, mt (a + 2), a + 3⟩ : S46)]).length : Nat) : Int) = (p.length : Int) + 1 := by simp
    rw [e2, List.append_assoc] at ih
    have hlen : ((p ++ (⟨a, a + 1, mt (a + 2), a + 3⟩ : S46) :: mkC (a + 4) q).length : Int) = p.length + (q.length + 1) := by simp [mkC_len]
    obtain ⟨K0, hK0⟩ := ih
    refine ⟨K0 + 65, fun k hk => ?_⟩
    obtain ⟨k, rfl⟩ : ∃ m, k = m + 1 := ⟨k - 1, by omega⟩
    have c0 : (0 : Int) ≤ (p.length : Int) := by omega
    have c1 : (p.length : Int) < ((p ++ (⟨a, a + 1, mt (a + 2), a + 3⟩ : S46) :: mkC (a + 4) q).length : Int) := by omega
    have ck : 64 ≤ k := by omega
    have cK : K0 ≤ k := by omega
    have ca : a + 2 ≤ 4611686018427387904 := by omega
    have e3 : (a + 4 * (((x :: q).length : Nat) : Int)) = a + 4 + 4 * (q.length : Int) := by rw [List.length_cons]; omega
    have w1 : wrap64 (a + 1) = a + 1 := by unfold wrap64; omega
    have w2 : wrap64 (a + 1 + 1) = a + 2 := by unfold wrap64; omega
    have w3 : wrap64 (a + 2 + 1) = a + 3 := by unfold wrap64; omega
    have w4 : wrap64 (a + 3 + 1) = a + 4 := by unfold wrap64; omega
    have w5 : wrap64 ((p.length : Int) + 1) = (p.length : Int) + 1 := by unfold wrap64; omega
    have hmt : laws_markText.f k (a + 2) = some (mt (a + 2)) := at_rounds (g := fun k => laws_markText.f k (a + 2)) (fun k => laws_markText.mono (a + 2) k) ck (mt_some (a + 2) ca)
    simp only [laws_heldCallS.l0, mkC, w1, w2, w3, w4, w5, rdC_mid]
    rw [if_pos c1, if_pos c0, if_pos trivial, if_pos trivial, hmt]
    simp only [Option.bind_some]
    rw [if_pos trivial, if_pos trivial]
    have := hK0 k cK
    simp only [List.singleton_append] at this
    rw [this, e3]
theorem rd_mid (p q : List Int) (c : Int) : rd (p ++ c :: q) (p.length : Int) = c := by simp [rd]
theorem heldI_loop : ∀ (q p : List Int) (a : Int), 0 ≤ a → a + q.length ≤ 4611686018427387904 → p.length + q.length ≤ 4611686018427387904 → Ev (fun k => laws_heldIntS.l0 k (p ++ mkI a q) a (p.length : Int)) (a + q.length)
  | [], p, a, h0, h1, h2 => by
    refine Ev.step (f := fun _ => some a) (fun k => ?_) (by simpa [mkI] using Ev.now a)
    simp [laws_heldIntS.l0, mkI]
  | x :: q, p, a, h0, h1, h2 => by
    simp only [List.length_cons] at h1 h2
    have ih := heldI_loop q (p ++ [a]) (a + 1) (by omega) (by omega) (by simp; omega)
    have e2 : (((p ++ [a]).length : Nat) : Int) = (p.length : Int) + 1 := by simp
    rw [e2, List.append_assoc] at ih
    have hlen : ((p ++ a :: mkI (a + 1) q).length : Int) = p.length + (q.length + 1) := by simp [mkI_len]
    refine Ev.step (f := fun k => laws_heldIntS.l0 k (p ++ a :: mkI (a + 1) q) (a + 1) ((p.length : Int) + 1)) (fun k => ?_) ?_
    · have w1 : wrap64 (a + 1) = a + 1 := by unfold wrap64; omega
      have w5 : wrap64 ((p.length : Int) + 1) = (p.length : Int) + 1 := by unfold wrap64; omega
      simp only [laws_heldIntS.l0, mkI, w1, w5, rd_mid]
      rw [if_pos (by omega), if_pos (by omega), if_pos trivial]
    · have e3 : a + (((x :: q).length : Nat) : Int) = a + 1 + (q.length : Int) := by simp; omega
      rw [e3]
      simpa using ih
/-- The marks of a script. -/
def mkEnd (cs : List S46) (ps : List Int) : Int := 1 + 4 * cs.length + ps.length
theorem markScript_ev (d : ByteArray) (cs : List S46) (ps : List Int) (h1 : cs.length ≤ 1099511627776) (h2 : ps.length ≤ 1099511627776) : Ev (fun k => laws_markScript.f k d cs ps 1) (mkEnd cs ps, mkC 1 cs, mkI (1 + 4 * cs.length) ps) := by
  have e : (fun k => laws_markScript.f k d cs ps 1) = fun k => (laws_markCallS.l0 k ([] ++ cs) 1 ((([] : List S46).length : Nat) : Int)).bind fun bt => ((laws_markIntS.l0 k ([] ++ ps) bt.1 ((([] : List Int).length : Nat) : Int)).bind fun b => some (b.1, bt.2, b.2)) := by
    funext k; rfl
  rw [e]
  refine Ev.bind (markC_loop cs [] 1 (by omega) (by omega) (by simp; omega)) ?_
  refine Ev.bind (markI_loop ps [] (1 + 4 * cs.length) (by omega) (by omega) (by simp; omega)) ?_
  exact Ev.now _
theorem heldScript_ev (d : ByteArray) (cs : List S46) (ps : List Int) (h1 : cs.length ≤ 1099511627776) (h2 : ps.length ≤ 1099511627776) : Ev (fun k => laws_heldScript.f k d (mkC 1 cs) (mkI (1 + 4 * cs.length) ps) 1) (mkEnd cs ps) := by
  have e : (fun k => laws_heldScript.f k d (mkC 1 cs) (mkI (1 + 4 * cs.length) ps) 1) = fun k => (laws_heldCallS.l0 k ([] ++ mkC 1 cs) 1 ((([] : List S46).length : Nat) : Int)).bind fun t => (if t < 0 then (some (-1)) else ((laws_heldIntS.l0 k ([] ++ mkI (1 + 4 * cs.length) ps) t ((([] : List Int).length : Nat) : Int)).bind fun t2 => (if t2 < 0 then (some (-1)) else (some t2)))) := by
    funext k; rfl
  rw [e]
  refine Ev.bind (heldC_loop cs [] 1 (by omega) (by omega) (by simp; omega)) ?_
  simp only [if_neg (show ¬ (1 + 4 * (cs.length : Int) < 0) by omega)]
  refine Ev.bind (heldI_loop ps [] (1 + 4 * cs.length) (by omega) (by omega) (by simp; omega)) ?_
  simp only [if_neg (show ¬ (1 + 4 * (cs.length : Int) + (ps.length : Int) < 0) by omega)]
  exact Ev.now _
end Go.Proofs.YtfadnchkododdaaDoor.Ps
