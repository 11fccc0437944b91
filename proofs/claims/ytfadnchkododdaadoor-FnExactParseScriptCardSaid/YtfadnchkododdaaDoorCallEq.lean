/- spec.l6Call over its print answers as impl.line's call branch. -/
import Derived.Test.YtfadnchkododdaaDoorZDefs
import Derived.Test.YtfadnchkododdaaDoorLines
import Derived.Test.YtfadnchkododdaaDoorCall
import Derived.Test.YtfadnchkododdaaDoorPicks
namespace Go.Proofs.YtfadnchkododdaaDoor.Ps
open Go Go.RowKit Go.Proofs.YtfadnchkododdaaDoorW.PrintWords Go.Proofs.YtfadnchkododdaaDoor.PPs
set_option linter.unusedVariables false
set_option linter.unusedSimpArgs false

theorem cutC_none (k : UInt8) : ∀ l, (cutC k l).2.2 = false → (cutC k l).1 = l ∧ (cutC k l).2.1 = []
  | [], _ => ⟨rfl, rfl⟩
  | c :: l, h => by
    unfold cutC at h ⊢
    by_cases hc : c = k
    · rw [if_pos hc] at h; cases h
    · rw [if_neg hc] at h ⊢
      have := cutC_none k l h
      exact ⟨by rw [this.1], this.2⟩
theorem cutC_some (k : UInt8) : ∀ l, (cutC k l).2.2 = true → l = (cutC k l).1 ++ k :: (cutC k l).2.1
  | [], h => by cases h
  | c :: l, h => by
    unfold cutC at h ⊢
    by_cases hc : c = k
    · rw [if_pos hc, hc]; rfl
    · rw [if_neg hc] at h ⊢
      have := cutC_some k l h
      show c :: l = c :: ((cutC k l).1 ++ k :: (cutC k l).2.1)
      rw [← this]
theorem cutC_free (k : UInt8) : ∀ l, ∀ x ∈ (cutC k l).1, x ≠ k
  | [], x, h => by cases h
  | c :: l, x, h => by
    unfold cutC at h
    by_cases hc : c = k
    · rw [if_pos hc] at h; cases h
    · rw [if_neg hc] at h
      rcases List.mem_cons.1 h with rfl | h
      · exact hc
      · exact cutC_free k l x h
/-- A word and the byte behind it begin a text. -/
theorem pre_word (k : UInt8) : ∀ (p w t : List UInt8), (∀ x ∈ p, x ≠ k) → (∀ x ∈ w, x ≠ k) → ((p ++ [k]).isPrefixOf (w ++ k :: t) = true ↔ p = w)
  | [], [], t, _, _ => by simp
  | [], b :: w, t, _, hw => by
    have := hw b (by simp)
    simp [List.isPrefixOf]
    exact fun h => this h.symm
  | a :: p, [], t, hp, _ => by
    have := hp a (by simp)
    simp [List.isPrefixOf]
    exact fun h => absurd h this
  | a :: p, b :: w, t, hp, hw => by
    have ih := pre_word k p w t (fun x hx => hp x (by simp [hx])) (fun x hx => hw x (by simp [hx]))
    simp only [List.cons_append, List.isPrefixOf, Bool.and_eq_true, beq_iff_eq, List.cons.injEq]
    rw [ih]
theorem pre_free (k : UInt8) : ∀ (p l : List UInt8), (∀ x ∈ l, x ≠ k) → (p ++ [k]).isPrefixOf l = false
  | [], [], _ => rfl
  | [], b :: l, h => by
    have := h b (by simp)
    simp [List.isPrefixOf]
    exact fun h => this h.symm
  | a :: p, [], _ => rfl
  | a :: p, b :: l, h => by
    have ih := pre_free k p l (fun x hx => h x (by simp [hx]))
    simp only [List.cons_append, List.isPrefixOf, ih, Bool.and_false]

/-- spec.l6Rest: what stands behind a beginning. -/
theorem rest_f (l h : List UInt8) (hl : l.length ≤ 1048576) (hh : h.length ≤ 16) : spec_l6Rest.f (bb l) (bb h) = some (if h.isPrefixOf l = true then (bb (l.drop h.length), true) else (⟨#[]⟩, false)) := by
  have e : wrap64 (0 + (h.length : Int)) = (h.length : Int) := by rw [wrapn _ (by omega) (by omega)]; omega
  unfold spec_l6Rest.f spec_l1Word.f
  rw [bb_size, bb_size, e]
  by_cases hle : h.length ≤ l.length
  · have hp : (((bb l).extract (0 : Int).toNat ((h.length : Int)).toNat).toList == (bb h).toList) = h.isPrefixOf l := by
      rw [bb_list, bb_ext, bb_list, Int.toNat_natCast, show (0 : Int).toNat = 0 from rfl, List.drop_zero, Nat.sub_zero, Bool.eq_iff_iff, beq_iff_eq, List.isPrefixOf_iff_prefix, List.prefix_iff_eq_take]
      exact eq_comm
    rw [if_pos (by omega), if_pos (by omega), if_pos (by omega), Option.bind_some, hp]
    by_cases hx : h.isPrefixOf l = true
    · rw [if_pos hx, if_pos hx, if_pos (by omega), if_pos (by omega), Int.toNat_natCast, ← bb_size l, bb_end]
    · rw [if_neg hx, if_neg hx]
  · rw [if_neg (by omega), Option.bind_some, if_neg (by simp), if_neg]
    intro hp
    exact hle (List.isPrefixOf_iff_prefix.1 hp).length_le

/-- A watch's room and text. -/
def watchS : Nat → Int → List UInt8 → Option (Int × List UInt8)
  | _, _, [] => none
  | n, room, c :: r => if 48 ≤ c.toNat ∧ c.toNat ≤ 57 then (if 3 ≤ n then none else watchS (n + 1) (room * 10 + (c.toNat - 48 : Nat)) r) else if n = 0 then none else if c = 32 then some (room, r) else none
theorem watch_cut : ∀ (l : List UInt8) (n acc : Nat), n ≤ 3 → watchS n (acc : Int) l = if (cutC 32 l).2.2 = true ∧ 1 ≤ n + (cutC 32 l).1.length ∧ n + (cutC 32 l).1.length ≤ 3 ∧ digsL (cutC 32 l).1 = true then some ((((Lib.decFrom acc (cutC 32 l).1).getD 0 : Nat) : Int), (cutC 32 l).2.1) else none
  | [], n, acc, hn => by
    rw [if_neg (fun h => by cases h.1)]
    rfl
  | c :: l, n, acc, hn => by
    unfold watchS cutC
    by_cases hd : 48 ≤ c.toNat ∧ c.toNat ≤ 57
    · have hc : c ≠ 32 := by rintro rfl; exact absurd hd.1 (by decide)
      rw [if_pos hd, if_neg hc]
      have ed : Lib.decFrom acc (c :: (cutC 32 l).1) = Lib.decFrom (acc * 10 + (c.toNat - 48)) (cutC 32 l).1 := by
        rw [show Lib.decFrom acc (c :: (cutC 32 l).1) = (match Lib.digitVal c with | some d => Lib.decFrom (acc * 10 + d) (cutC 32 l).1 | none => none) from rfl]
        unfold Lib.digitVal
        rw [if_pos hd]
      have eg : digsL (c :: (cutC 32 l).1) = digsL (cutC 32 l).1 := by
        unfold digsL
        rw [List.all_cons, decide_eq_true hd, Bool.true_and]
      simp only [ed, eg, List.length_cons]
      by_cases h3 : 3 ≤ n
      · rw [if_pos h3, if_neg (fun h => by omega)]
      · rw [if_neg h3, show (acc : Int) * 10 + ((c.toNat - 48 : Nat) : Int) = ((acc * 10 + (c.toNat - 48) : Nat) : Int) by omega, watch_cut l (n + 1) _ (by omega)]
        have e2 : n + 1 + (cutC 32 l).1.length = n + ((cutC 32 l).1.length + 1) := by omega
        rw [e2]
    · rw [if_neg hd]
      by_cases hc : c = 32
      · rw [if_pos hc, if_pos hc]
        by_cases h0 : n = 0
        · rw [if_pos h0, if_neg (fun h => by simp at h; omega)]
        · rw [if_neg h0, if_pos ⟨rfl, by omega, by simp; omega, rfl⟩]
          rfl
      · rw [if_neg hc, if_neg hc, ite_self, if_neg]
        rintro ⟨_, _, _, h⟩
        unfold digsL at h
        rw [List.all_cons, decide_eq_false hd] at h
        cases h
abbrev HS : List ByteArray := [(⟨#[112, 97, 116, 99, 104, 32]⟩ : ByteArray), (⟨#[103, 101, 116, 32]⟩ : ByteArray), (⟨#[113, 117, 101, 114, 121, 32]⟩ : ByteArray), (⟨#[119, 97, 116, 99, 104, 32]⟩ : ByteArray)]
theorem l0_step (k : Nat) (r h : List UInt8) (i : Int) (cl kd rm : Int) (tx : ByteArray) (hr : r.length ≤ 1048576) (hh : h.length ≤ 16) (h0 : 0 ≤ i) (h4 : i < 4) (hd : rdOf ByteArray.empty HS i = bb h) :
    spec_l6Call.l0 (k + 1) (bb r) HS i 0 0 ⟨#[]⟩ 0 cl kd tx rm = spec_l6Call.l0 k (bb r) HS (i + 1) 0 0 ⟨#[]⟩ 0 cl (if h.isPrefixOf r = true then 1 + i else kd) (if h.isPrefixOf r = true then bb (r.drop h.length) else tx) rm := by
  have e : wrap64 (i + 1) = i + 1 := wrapn _ (by omega) (by omega)
  have e2 : wrap64 (1 + i) = 1 + i := wrapn _ (by omega) (by omega)
  rw [spec_l6Call.l0, if_pos h4, if_pos h0, if_pos (by simpa using h4), hd, rest_f r h hr hh, Option.bind_some, e, e2]
  by_cases hp : h.isPrefixOf r = true
  · simp only [if_pos hp]; rfl
  · simp only [if_neg hp]; rfl
theorem l0_end (k : Nat) (r : List UInt8) (cl kd rm : Int) (tx : ByteArray) :
    spec_l6Call.l0 (k + 1) (bb r) HS 4 0 0 ⟨#[]⟩ 0 cl kd tx rm = if kd = 0 then some (0, 0, ⟨#[]⟩, 0, false) else if kd = 4 then spec_l6Call.l1 k 0 0 0 ⟨#[]⟩ 0 cl kd tx rm else some (cl, kd, tx, rm, true) := by
  rw [spec_l6Call.l0, if_neg (by decide)]
abbrev p1 : List UInt8 := [112, 97, 116, 99, 104]
abbrev p2 : List UInt8 := [103, 101, 116]
abbrev p3 : List UInt8 := [113, 117, 101, 114, 121]
abbrev p4 : List UInt8 := [119, 97, 116, 99, 104]
theorem l0_all (k : Nat) (r : List UInt8) (cl : Int) (hr : r.length ≤ 1048576) :
    spec_l6Call.l0 (k + 5) (bb r) HS 0 0 0 ⟨#[]⟩ 0 cl 0 ⟨#[]⟩ 0 =
      (if (if (p4 ++ [32]).isPrefixOf r = true then 4 else if (p3 ++ [32]).isPrefixOf r = true then 3 else if (p2 ++ [32]).isPrefixOf r = true then 2 else if (p1 ++ [32]).isPrefixOf r = true then (1 : Int) else 0) = 0 then some (0, 0, ⟨#[]⟩, 0, false)
      else if (if (p4 ++ [32]).isPrefixOf r = true then 4 else if (p3 ++ [32]).isPrefixOf r = true then 3 else if (p2 ++ [32]).isPrefixOf r = true then 2 else if (p1 ++ [32]).isPrefixOf r = true then (1 : Int) else 0) = 4 then
        spec_l6Call.l1 k 0 0 0 ⟨#[]⟩ 0 cl (if (p4 ++ [32]).isPrefixOf r = true then 4 else if (p3 ++ [32]).isPrefixOf r = true then 3 else if (p2 ++ [32]).isPrefixOf r = true then 2 else if (p1 ++ [32]).isPrefixOf r = true then 1 else 0) (if (p4 ++ [32]).isPrefixOf r = true then bb (r.drop 6) else if (p3 ++ [32]).isPrefixOf r = true then bb (r.drop 6) else if (p2 ++ [32]).isPrefixOf r = true then bb (r.drop 4) else if (p1 ++ [32]).isPrefixOf r = true then bb (r.drop 6) else ⟨#[]⟩) 0
      else some (cl, (if (p4 ++ [32]).isPrefixOf r = true then 4 else if (p3 ++ [32]).isPrefixOf r = true then 3 else if (p2 ++ [32]).isPrefixOf r = true then 2 else if (p1 ++ [32]).isPrefixOf r = true then 1 else 0), (if (p4 ++ [32]).isPrefixOf r = true then bb (r.drop 6) else if (p3 ++ [32]).isPrefixOf r = true then bb (r.drop 6) else if (p2 ++ [32]).isPrefixOf r = true then bb (r.drop 4) else if (p1 ++ [32]).isPrefixOf r = true then bb (r.drop 6) else ⟨#[]⟩), 0, true)) := by
  rw [l0_step (k + 4) r (p1 ++ [32]) 0 cl 0 0 _ hr (by decide) (by decide) (by decide) rfl,
    l0_step (k + 3) r (p2 ++ [32]) (0 + 1) cl _ 0 _ hr (by decide) (by decide) (by decide) rfl,
    l0_step (k + 2) r (p3 ++ [32]) (0 + 1 + 1) cl _ 0 _ hr (by decide) (by decide) (by decide) rfl,
    l0_step (k + 1) r (p4 ++ [32]) (0 + 1 + 1 + 1) cl _ 0 _ hr (by decide) (by decide) (by decide) rfl,
    show (0 : Int) + 1 + 1 + 1 + 1 = 4 from rfl, l0_end]
  rfl
/-- The room's digits. -/
def watchR (cl : Int) : Option (Int × List UInt8) → Int × Int × ByteArray × Int × Bool
  | some (x, y) => (cl, 4, bb y, x, true)
  | none => (0, 0, ⟨#[]⟩, 0, false)
theorem l1_all (cl : Int) (t : List UInt8) (ht : t.length ≤ 1048576) : ∀ (m n k rm : Nat), n + m = 4 → n ≤ t.length → 2 * m + 2 ≤ k → rm < 10 ^ n →
    spec_l6Call.l1 k (n : Int) 0 0 ⟨#[]⟩ 0 cl 4 (bb t) (rm : Int) = some (watchR cl (watchS n (rm : Int) (t.drop n))) := by
  intro m
  induction m using Nat.strongRecOn with
  | _ m ih =>
    intro n k rm hm hn hk h1
    obtain ⟨k, rfl⟩ : ∃ j, k = j + 2 := ⟨k - 2, by omega⟩
    have e1 : wrap64 ((n : Int) + 1) = ((n + 1 : Nat) : Int) := by rw [wrapn _ (by omega) (by omega)]; omega
    have hb : 10 ^ n ≤ 10 ^ 4 := Nat.pow_le_pow_right (by decide) (by omega)
    rw [spec_l6Call.l1, bb_size]
    by_cases hl : n < t.length
    · rw [if_pos (by omega), if_pos (by omega), bb_bt, drop_at t n hl]
      have hc := UInt8.toNat_lt (t.getD n 0)
      unfold spec_l1Digit.f watchS
      by_cases hd : 48 ≤ (t.getD n 0).toNat ∧ (t.getD n 0).toNat ≤ 57
      · rw [if_pos (by omega), Option.bind_some, decide_eq_true (by omega), spec_l6Call.j3, if_pos rfl, if_pos (by omega), bb_size, if_pos (by omega), e1, if_pos hd, bb_bt]
        by_cases h3 : 3 ≤ n
        · rw [if_pos (by omega), if_pos h3]
          rfl
        · rw [if_neg (by omega), if_neg h3]
          have e2 : wrap64 (wrap64 ((rm : Int) * 10) + (((t.getD n 0).toNat : Int) - 48) % 256) = ((rm * 10 + ((t.getD n 0).toNat - 48) : Nat) : Int) := by
            rw [wrapn ((rm : Int) * 10) (by omega) (by omega), wrapn _ (by omega) (by omega)]
            omega
          rw [e2]
          have hm1 : m - 1 + 1 = m := by omega
          have h2 : rm * 10 + ((t.getD n 0).toNat - 48) < 10 ^ (n + 1) := by rw [Nat.pow_succ]; omega
          rw [ih (m - 1) (by omega) (n + 1) k _ (by omega) (by omega) (by omega) h2]
          have e3 : ((rm * 10 + ((t.getD n 0).toNat - 48) : Nat) : Int) = (rm : Int) * 10 + ((t.getD n 0).toNat - 48 : Nat) := by omega
          rw [e3]
      · have hf : (if ((t.getD n 0).toNat : Int) ≥ 48 then some (decide (((t.getD n 0).toNat : Int) ≤ 57)) else some false) = some false := by
          by_cases h48 : ((t.getD n 0).toNat : Int) ≥ 48
          · rw [if_pos h48, decide_eq_false (by omega)]
          · rw [if_neg h48]
        rw [hf, Option.bind_some, spec_l6Call.j3, if_neg (by simp), if_neg hd]
        by_cases hz : n = 0
        · rw [if_pos (by omega), if_pos hz]
          rfl
        · rw [if_neg (by omega), if_neg hz]
          unfold spec_l1At.f
          rw [bb_size, if_pos (by omega), if_pos (by omega), Option.bind_some, bb_bt]
          by_cases h32 : t.getD n 0 = 32
          · have : (((t.getD n 0).toNat : Int) == 32) = true := beq_iff_eq.2 ((u8i _ 32 32 rfl).2 h32)
            rw [this, if_pos rfl, e1, if_pos (by omega), if_pos (by omega), if_pos h32, Int.toNat_natCast, ← bb_size t, bb_end]
            rfl
          · have : (((t.getD n 0).toNat : Int) == 32) = false := beq_eq_false_iff_ne.2 (fun h => h32 ((u8i _ 32 32 rfl).1 h))
            rw [this, if_neg (by simp), if_neg h32]
            rfl
    · rw [if_neg (by omega), spec_l6Call.j3, if_neg (by simp), List.drop_of_length_le (by omega)]
      show _ = some (watchR cl none)
      by_cases hz : n = 0
      · rw [if_pos (by omega)]
        rfl
      · rw [if_neg (by omega)]
        unfold spec_l1At.f
        rw [bb_size, if_neg (by omega), Option.bind_some, if_neg (by simp)]
        rfl
theorem atoi_dec (l : List UInt8) (h1 : 1 ≤ l.length) (h : digsL l = true) : (Lib.atoi l).getD 0 = (((Lib.decFrom 0 l).getD 0 : Nat) : Int) := by
  cases l with
  | nil => simp at h1
  | cons b r =>
    obtain ⟨n, hn⟩ := dec_digs (b :: r) 0 h
    have hb : 48 ≤ b.toNat := by
      unfold digsL at h
      simp only [List.all_cons, Bool.and_eq_true, decide_eq_true_eq] at h
      exact h.1.1
    have e1 : (b == 45) = false := by
      rw [beq_eq_false_iff_ne]; intro he; rw [he] at hb; revert hb; decide
    have e2 : (b == 43) = false := by
      rw [beq_eq_false_iff_ne]; intro he; rw [he] at hb; revert hb; decide
    simp only [Lib.atoi, e1, e2, Lib.decNat]
    rw [hn]
    rfl
theorem kind_cases (w : List UInt8) : (w = [99, 97, 110, 99, 101, 108] ∧ kindL w = 6) ∨ (w = [116, 97, 107, 101] ∧ kindL w = 5) ∨ (w = p4 ∧ kindL w = 4) ∨ (w = p3 ∧ kindL w = 3) ∨ (w = p2 ∧ kindL w = 2) ∨ (w = p1 ∧ kindL w = 1) ∨ (w ≠ p1 ∧ w ≠ p2 ∧ w ≠ p3 ∧ w ≠ p4 ∧ kindL w = 0) := by
  unfold kindL
  by_cases h6 : w = [99, 97, 110, 99, 101, 108]
  · exact .inl ⟨h6, by rw [if_pos h6]⟩
  rw [if_neg h6]
  by_cases h5 : w = [116, 97, 107, 101]
  · exact .inr (.inl ⟨h5, by rw [if_pos h5]⟩)
  rw [if_neg h5]
  by_cases h4 : w = p4
  · exact .inr (.inr (.inl ⟨h4, by rw [if_pos h4]⟩))
  rw [if_neg h4]
  by_cases h3 : w = p3
  · exact .inr (.inr (.inr (.inl ⟨h3, by rw [if_pos h3]⟩)))
  rw [if_neg h3]
  by_cases h2 : w = p2
  · exact .inr (.inr (.inr (.inr (.inl ⟨h2, by rw [if_pos h2]⟩))))
  rw [if_neg h2]
  by_cases h1 : w = p1
  · exact .inr (.inr (.inr (.inr (.inr (.inl ⟨h1, by rw [if_pos h1]⟩)))))
  rw [if_neg h1]
  exact .inr (.inr (.inr (.inr (.inr (.inr ⟨h1, h2, h3, h4, rfl⟩)))))
/-- What the reference's call reads as. -/
def rightS (cl : Int) (q : Int × List UInt8 × Int × Bool) : Int × Int × ByteArray × Int × Bool := if q.2.2.2 = true then (cl, q.1, bb q.2.1, q.2.2.1, true) else (0, 0, ⟨#[]⟩, 0, false)
theorem callF_cut (r w t : List UInt8) (has : Bool) (h : cutC 32 r = (w, t, has)) : callF r = if kindL w = 0 then (0, [], 0, false)
  else if kindL w = 5 ∨ kindL w = 6 then (kindL w, [], 0, !has)
  else if kindL w = 4 then
    if (cutC 32 t).2.2 = true ∧ 1 ≤ (cutC 32 t).1.length ∧ (cutC 32 t).1.length ≤ 3 ∧ digsL (cutC 32 t).1 = true then
      (4, (cutC 32 t).2.1, (Lib.atoi (cutC 32 t).1).getD 0, true)
    else (4, [], 0, false)
  else (kindL w, t, 0, has) := by
  rw [callF_at, cut_eq, h]
  simp only [cut_eq]
theorem l0_call (k : Nat) (r : List UInt8) (cl : Int) (hr : r.length ≤ 1048576) (ht : r ≠ [116, 97, 107, 101]) (hc : r ≠ [99, 97, 110, 99, 101, 108]) :
    spec_l6Call.l0 (k + 15) (bb r) HS 0 0 0 ⟨#[]⟩ 0 cl 0 ⟨#[]⟩ 0 = some (rightS cl (callF r)) := by
  obtain ⟨w, t, has, hcut⟩ : ∃ w t has, cutC 32 r = (w, t, has) := ⟨_, _, _, rfl⟩
  have hfree : ∀ x ∈ w, x ≠ 32 := fun x hx => cutC_free 32 r x (by rw [hcut]; exact hx)
  rw [l0_all (k + 10) r cl hr, callF_cut r w t has hcut]
  cases has with
  | false =>
    have h1 := cutC_none 32 r (by rw [hcut])
    rw [hcut] at h1
    obtain ⟨hw, ht0⟩ := h1
    have hw : w = r := hw
    have ht0 : t = [] := ht0
    subst hw ht0
    rw [pre_free 32 p1 w hfree, pre_free 32 p2 w hfree, pre_free 32 p3 w hfree, pre_free 32 p4 w hfree]
    rcases kind_cases w with h | h | h | h | h | h | h
    · exact absurd h.1 hc
    · exact absurd h.1 ht
    · rw [h.2]; rfl
    · rw [h.2]; rfl
    · rw [h.2]; rfl
    · rw [h.2]; rfl
    · rw [h.2.2.2.2]; rfl
  | true =>
    have h1 := cutC_some 32 r (by rw [hcut])
    rw [hcut] at h1
    have h1 : r = w ++ 32 :: t := h1
    subst h1
    have P1 := pre_word 32 p1 w t (by decide) hfree
    have P2 := pre_word 32 p2 w t (by decide) hfree
    have P3 := pre_word 32 p3 w t (by decide) hfree
    have P4 := pre_word 32 p4 w t (by decide) hfree
    simp only [P1, P2, P3, P4]
    rcases kind_cases w with h | h | h | h | h | h | h
    · obtain ⟨rfl, h⟩ := h; rw [h]; rfl
    · obtain ⟨rfl, h⟩ := h; rw [h]; rfl
    · obtain ⟨rfl, h⟩ := h
      rw [h]
      have hd : (p4 ++ 32 :: t).drop 6 = t := rfl
      rw [hd]
      have htl : t.length ≤ 1048576 := by simp at hr; omega
      have hw := l1_all cl t htl 4 0 (k + 10) 0 rfl (Nat.zero_le _) (by omega) (by decide)
      have hw2 := watch_cut t 0 0 (by decide)
      simp only [if_true, if_neg (show ¬ ((4 : Int) = 0) by decide)]
      refine hw.trans ?_
      rw [List.drop_zero, hw2, Nat.zero_add]
      simp only [if_neg (show ¬ ((4 : Int) = 0) by decide), if_neg (show ¬ ((4 : Int) = 5 ∨ (4 : Int) = 6) by decide)]
      by_cases hx : (cutC 32 t).2.2 = true ∧ 1 ≤ (cutC 32 t).1.length ∧ (cutC 32 t).1.length ≤ 3 ∧ digsL (cutC 32 t).1 = true
      · rw [if_pos hx, if_pos hx, atoi_dec _ hx.2.1 hx.2.2.2]
        rfl
      · rw [if_neg hx, if_neg hx]
        rfl
    · obtain ⟨rfl, h⟩ := h; rw [h]; rfl
    · obtain ⟨rfl, h⟩ := h; rw [h]; rfl
    · obtain ⟨rfl, h⟩ := h; rw [h]; rfl
    · obtain ⟨h1, h2, h3, h4, h⟩ := h
      have a1 : ¬ p1 = w := fun e => h1 e.symm
      have a2 : ¬ p2 = w := fun e => h2 e.symm
      have a3 : ¬ p3 = w := fun e => h3 e.symm
      have a4 : ¬ p4 = w := fun e => h4 e.symm
      simp only [h, if_neg a1, if_neg a2, if_neg a3, if_neg a4]
      rfl
/-- What the reference's call line reads as. -/
def callS (l : List UInt8) : Int × Int × ByteArray × Int × Bool :=
  if (clientF (bb (cutC 32 l).1)).2 = true ∧ (cutC 32 l).2.2 = true then rightS (clientF (bb (cutC 32 l).1)).1 (callF (cutC 32 l).2.1) else (0, 0, ⟨#[]⟩, 0, false)
theorem callS_no (l : List UInt8) (h : ¬ ((clientF (bb (cutC 32 l).1)).2 = true ∧ (cutC 32 l).2.2 = true)) : callS l = (0, 0, ⟨#[]⟩, 0, false) := if_neg h
theorem callS_yes (l : List UInt8) (h : (clientF (bb (cutC 32 l).1)).2 = true ∧ (cutC 32 l).2.2 = true) : callS l = rightS (clientF (bb (cutC 32 l).1)).1 (callF (cutC 32 l).2.1) := if_pos h
theorem client_len (l : List UInt8) (h : l.length ≠ 1) : clientF (bb l) = (0, false) := by
  unfold clientF
  rw [bb_size, if_neg h]
theorem j0_true (k : Nat) (x : ByteArray) : spec_l6Call.j0 (k + 1) x true 0 0 ⟨#[]⟩ 0 = some (0, 0, ⟨#[]⟩, 0, false) := by
  rw [spec_l6Call.j0, if_pos rfl]
theorem call_f (k : Nat) (l : List UInt8) (hl : l.length ≤ 1048576) : spec_l6Call.f (k + 16) (bb l) = some (callS l) := by
  have hb0 : bt (bb l) 0 = ((l.getD 0 0).toNat : Int) := bb_bt l 0
  have hb1 : bt (bb l) 1 = ((l.getD 1 0).toNat : Int) := bb_bt l 1
  unfold spec_l6Call.f
  rw [bb_size]
  match l, hl, hb0, hb1 with
  | [], _, _, _ => rw [if_pos (by simp), j0_true, callS_no [] (fun h => by cases h.2)]
  | [a], _, _, _ =>
    rw [if_pos (by simp), j0_true, callS_no]
    unfold cutC
    by_cases ha : a = 32
    · rw [if_pos ha]; exact fun h => by cases h.1
    · rw [if_neg ha]; exact fun h => by cases h.2
  | a :: b :: r, hl, hb0, hb1 =>
    simp only [List.length_cons] at hl
    have hb0 : bt (bb (a :: b :: r)) 0 = (a.toNat : Int) := hb0
    have hb1 : bt (bb (a :: b :: r)) 1 = (b.toNat : Int) := hb1
    have hce : bb (a :: b :: r) = bb (a :: b :: r) := rfl
    by_cases hb : b = 32
    · subst hb
      by_cases ha : a = 32
      · subst ha
        have hc : cutC 32 ((32 : UInt8) :: 32 :: r) = ([], 32 :: r, true) := by rw [cutC, if_pos rfl]
        rw [callS_no _ (by rw [hc]; exact fun h => by cases h.1)]
        by_cases h3 : (((32 : UInt8) :: 32 :: r).length : Int) < 3
        · rw [if_pos h3, j0_true]
        · rw [if_neg h3, if_pos (by simp <;> omega), hb0, if_pos (by decide), j0_true]
      · have hc : cutC 32 (a :: 32 :: r) = ([a], r, true) := by rw [cutC, if_neg ha, cutC, if_pos rfl]
        have hba : bt (bb [a]) 0 = (a.toNat : Int) := bb_bt [a] 0
        have hcl : clientF (bb [a]) = if (a.toNat : Int) < 48 then (0, false) else if (a.toNat : Int) > 55 then (0, false) else (((a.toNat : Int) - 48) % 256, true) := by
          unfold clientF
          rw [bb_size, if_pos (by simp), hba]
        have hS : callS (a :: 32 :: r) = if (clientF (bb [a])).2 = true ∧ true = true then rightS (clientF (bb [a])).1 (callF r) else (0, 0, ⟨#[]⟩, 0, false) := by
          unfold callS
          rw [hc]
        rw [hcl] at hS
        by_cases h3 : ((a :: (32 : UInt8) :: r).length : Int) < 3
        · have hr : r = [] := by
            apply List.length_eq_zero_iff.1
            simp at h3
            omega
          subst hr
          rw [if_pos h3, j0_true, hS]
          have : rightS (if (a.toNat : Int) < 48 then (0, false) else if (a.toNat : Int) > 55 then (0, false) else (((a.toNat : Int) - 48) % 256, true)).1 (callF []) = (0, 0, ⟨#[]⟩, 0, false) := by
            rw [callF_cut [] [] [] false rfl, show kindL [] = 0 from rfl]
            rfl
          rw [this, ite_self]
        · rw [if_neg h3, if_pos (by simp <;> omega), hb0]
          by_cases hlo : (a.toNat : Int) < 48
          · rw [if_pos hlo] at hS
            rw [if_pos hlo, j0_true, hS, if_neg (fun h => by cases h.1)]
          · rw [if_neg hlo] at hS
            rw [if_neg hlo]
            by_cases hhi : (a.toNat : Int) > 55
            · rw [if_pos hhi] at hS
              rw [if_pos hhi, j0_true, hS, if_neg (fun h => by cases h.1)]
            · rw [if_neg hhi, if_pos ⟨rfl, rfl⟩] at hS
              rw [if_neg hhi, if_pos (by simp <;> omega), hb1, hS]
              have hx : (((32 : UInt8).toNat : Int) != 32) = false := rfl
              have hext : (bb (a :: 32 :: r)).extract 2 (bb (a :: 32 :: r)).size = bb r := bb_end (a :: 32 :: r) 2
              rw [hx, spec_l6Call.j0, if_neg (by simp), hext, bb_list, hb0, bb_size, if_pos (by simp <;> omega), if_pos (by simp <;> omega)]
              by_cases ht : r = [116, 97, 107, 101]
              · subst ht
                rw [if_pos rfl, callF_cut _ [116, 97, 107, 101] [] false (by rfl), show kindL [116, 97, 107, 101] = 5 from rfl]
                rfl
              · rw [if_neg ht]
                by_cases hc : r = [99, 97, 110, 99, 101, 108]
                · subst hc
                  rw [if_pos rfl, callF_cut _ [99, 97, 110, 99, 101, 108] [] false (by rfl), show kindL [99, 97, 110, 99, 101, 108] = 6 from rfl]
                  rfl
                · rw [if_neg hc]
                  exact l0_call k r _ (by omega) ht hc
    · have hc : cutC 32 (a :: b :: r) = if a = 32 then ([], b :: r, true) else (a :: b :: (cutC 32 r).1, (cutC 32 r).2.1, (cutC 32 r).2.2) := by
        rw [cutC]
        by_cases ha : a = 32
        · rw [if_pos ha, if_pos ha]
        · rw [if_neg ha, if_neg ha, cutC, if_neg hb]
      have hcl : clientF (bb (cutC 32 (a :: b :: r)).1) = (0, false) := by
        apply client_len
        rw [hc]
        by_cases ha : a = 32
        · rw [if_pos ha]; simp
        · rw [if_neg ha]; simp
      rw [callS_no _ (by rw [hcl]; exact fun h => by cases h.1)]
      have hx : ((b.toNat : Int) != 32) = true := by
        rw [bne_iff_ne]
        exact fun h => hb ((u8i b 32 32 rfl).1 h)
      by_cases h3 : ((a :: b :: r).length : Int) < 3
      · rw [if_pos h3, j0_true]
      · rw [if_neg h3, if_pos (by simp <;> omega), hb0, hb1, hx]
        have h1 : (1 : Int) < ((a :: b :: r).length : Int) := by simp <;> omega
        simp only [if_pos h1, j0_true, ite_self]
end Go.Proofs.YtfadnchkododdaaDoor.Ps
