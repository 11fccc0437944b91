/- Plain laws of the printed sz.., eq.., held..: no program in sight. -/
import Derived.Test.YtmphkhkbegihaaaDoorPHubx
import Derived.Test.YtmphkhkbegihaaaDoorTo
import Derived.Test.YtmphkhkbegihaaaDoorOpen
namespace Go.Proofs.YtmphkhkbegihaaaDoor.Plain
open Go Go.RowKit Go.Proofs.YtmphkhkbegihaaaDoor.PHub Go.Proofs.YtmphkhkbegihaaaDoorW.PrintWords Go.Proofs.YtmphkhkbegihaaaDoor.Mark Go.Proofs.YtmphkhkbegihaaaDoor.To Go.Proofs.YtmphkhkbegihaaaDoor.Open
set_option linter.unusedVariables false
set_option linter.unusedSimpArgs false

theorem tmod_eq (a : Int) (h : 0 ≤ a) : Int.tmod a 3 = a % 3 := Int.tmod_eq_emod_of_nonneg h
/-! ### rows of strings -/
def smallStrS (l : List ByteArray) : Prop := l.length ≤ 4611686018427387904
theorem eqStr_loop (l : List ByteArray) (h : smallStrS l) : ∀ (d i : Nat), l.length - i = d → i ≤ l.length → Ev (fun k => laws_eqStringS.l0 k l l (i : Int)) true
  | 0, i, hd, hi => by
    refine Ev.step (f := fun _ => some true) (fun k => ?_) (Ev.now true)
    simp only [laws_eqStringS.l0]
    rw [if_neg (by omega)]
  | d + 1, i, hd, hi => by
    have hl : l.length ≤ 4611686018427387904 := h
    refine Ev.step (f := fun k => laws_eqStringS.l0 k l l ((i + 1 : Nat) : Int)) (fun k => ?_) (eqStr_loop l h d (i + 1) (by omega) (by omega))
    simp only [laws_eqStringS.l0]
    rw [if_pos (by omega), if_pos (by omega), if_pos (by omega), if_pos trivial, show wrap64 ((i : Int) + 1) = ((i + 1 : Nat) : Int) by unfold wrap64; omega]
theorem eqStr_refl (l : List ByteArray) (h : smallStrS l) : Ev (fun k => laws_eqStringS.f k l l) true := by
  have e : (fun k => laws_eqStringS.f k l l) = fun k => laws_eqStringS.l0 k l l 0 := by
    funext k
    simp [laws_eqStringS.f]
  rw [e]
  exact eqStr_loop l h _ 0 rfl (Nat.zero_le _)
theorem szStr_loop (l : List ByteArray) (hb : ∀ x ∈ l, x.size ≤ 9223372036854775807) (hl : l.length ≤ 4194304) : ∀ (d i : Nat) (a : Int), l.length - i = d → i ≤ l.length → 0 ≤ a → a ≤ 1048576 → ∃ r, Ev (fun k => laws_szStringS.l0 k l a (i : Int)) r ∧ (r < 0 ∨ (0 ≤ r ∧ r ≤ a))
  | 0, i, a, hd, hi, h0, h1 => by
    refine ⟨a, Ev.step (f := fun _ => some a) (fun k => ?_) (Ev.now a), .inr ⟨h0, Int.le_refl _⟩⟩
    simp only [laws_szStringS.l0]
    rw [if_neg (by omega)]
  | d + 1, i, a, hd, hi, h0, h1 => by
    have hrd : rdOf ByteArray.empty l (i : Int) = l[i]'(by omega) := by simp [rdOf, List.getD_eq_getElem?_getD, List.getElem?_eq_getElem (show i < l.length by omega)]
    have hx := hb _ (List.getElem_mem (l := l) (n := i) (by omega))
    have hw : wrap64 (a - ((l[i]'(by omega)).size : Int)) = a - (l[i]'(by omega)).size := by unfold wrap64; omega
    by_cases c : a - ((l[i]'(by omega)).size : Int) < 0
    · refine ⟨-1, Ev.step (f := fun _ => some (-1)) (fun k => ?_) (Ev.now _), .inl (by omega)⟩
      simp only [laws_szStringS.l0]
      rw [if_pos (by omega), if_pos (by omega), hrd, hw, if_pos c]
    · obtain ⟨r, e, g⟩ := szStr_loop l hb hl d (i + 1) (a - (l[i]'(by omega)).size) (by omega) (by omega) (by omega) (by omega)
      refine ⟨r, Ev.step (fun k => ?_) e, ?_⟩
      · simp only [laws_szStringS.l0]
        rw [if_pos (by omega), if_pos (by omega), hrd, hw, if_neg c, show wrap64 ((i : Int) + 1) = ((i + 1 : Nat) : Int) by unfold wrap64; omega]
      · rcases g with g | g
        · exact .inl g
        · exact .inr ⟨g.1, by omega⟩
theorem szStr_tells (l : List ByteArray) (hb : (∀ x ∈ l, x.size ≤ 9223372036854775807) ∧ l.length ≤ 9223372036854775807) (a : Int) (h0 : 0 ≤ a) (h1 : a ≤ 1048576) : ∃ r, Ev (fun k => laws_szStringS.f k l a) r ∧ (r < 0 ∨ (0 ≤ r ∧ r + (l.length : Int) ≤ a ∧ l.length ≤ 4194304)) := by
  have hw : wrap64 (a - (l.length : Int)) = a - l.length := by have := hb.2; unfold wrap64; omega
  unfold laws_szStringS.f
  rw [hw]
  by_cases c : a - (l.length : Int) < 0
  · exact ⟨-1, by simpa [c] using Ev.now (-1 : Int), .inl (by omega)⟩
  · simp only [if_neg c]
    obtain ⟨r, e, g⟩ := szStr_loop l hb.1 (by omega) _ 0 (a - l.length) rfl (Nat.zero_le _) (by omega) (by omega)
    refine ⟨r, e, ?_⟩
    rcases g with g | g
    · exact .inl g
    · exact .inr ⟨g.1, by omega, by omega⟩
theorem heldStr_loop : ∀ (q p : List ByteArray) (a : Int), 0 ≤ a → a + q.length ≤ 4611686018427387904 → p.length + q.length ≤ 4611686018427387904 → Ev (fun k => laws_heldStringS.l0 k (p ++ mkStr a q) a (p.length : Int)) (a + q.length)
  | [], p, a, h0, h1, h2 => by
    have e : a + ((([] : List ByteArray).length : Nat) : Int) = a := by simp
    rw [e]
    refine Ev.step (f := fun _ => some a) (fun k => ?_) (Ev.now a)
    simp [laws_heldStringS.l0, mkStr]
  | x :: q, p, a, h0, h1, h2 => by
    simp only [List.length_cons] at h1 h2
    have hrd : rdOf ByteArray.empty (p ++ mkStr a (x :: q)) (p.length : Int) = mt a := by simp [rdOf, mkStr]
    have hlen : (p ++ mkStr a (x :: q)).length = p.length + q.length + 1 := by simp [mkStr, mkStr_len]; omega
    have ih := heldStr_loop q (p ++ [mt a]) (a + 1) (by omega) (by omega) (by simp; omega)
    have e1 : (p ++ [mt a]) ++ mkStr (a + 1) q = p ++ mkStr a (x :: q) := by simp [mkStr]
    have e2 : (((p ++ [mt a]).length : Nat) : Int) = (p.length : Int) + 1 := by simp
    rw [e1, e2] at ih
    rw [show a + (((x :: q).length : Nat) : Int) = a + 1 + q.length by simp; omega]
    generalize p ++ mkStr a (x :: q) = L at *
    obtain ⟨K0, hK0⟩ := ih
    refine ⟨K0 + 65, fun k hk => ?_⟩
    obtain ⟨k, rfl⟩ : ∃ m, k = m + 1 := ⟨k - 1, by omega⟩
    simp only [laws_heldStringS.l0]
    rw [if_pos (by omega), if_pos (by omega), hrd, at_rounds (laws_markText.mono a) (show 64 ≤ k by omega) (mt_some a (by omega))]
    simp only [Option.bind_some]
    rw [if_pos trivial, show wrap64 ((p.length : Int) + 1) = (p.length : Int) + 1 by unfold wrap64; omega, show wrap64 (a + 1) = a + 1 by unfold wrap64; omega]
    exact hK0 k (by omega)
theorem heldStr_tells (l : List ByteArray) (a : Int) (h0 : 0 ≤ a) (h1 : a + l.length ≤ 4611686018427387904) (h2 : l.length ≤ 4611686018427387904) : Ev (fun k => laws_heldStringS.f k (mkStr a l) a) (a + l.length) := by
  have h := heldStr_loop l [] a h0 h1 (by simpa using h2)
  simpa [laws_heldStringS.f] using h
/-! ### the structs -/
/-! ### impl.Message -/
def smallMsg (x : S112) : Prop := smallStrS x.f1
def smallMsgS (l : List S112) : Prop := l.length ≤ 4611686018427387904 ∧ ∀ x ∈ l, smallMsg x
theorem eqMsg_refl (x : S112) (h : smallMsg x) : Ev (fun k => laws_eqMessage.f k x.f0 x.f1 x.f2 x.f0 x.f1 x.f2) true := by
  have e : (fun k => laws_eqMessage.f k x.f0 x.f1 x.f2 x.f0 x.f1 x.f2) = fun k => (laws_eqStringS.f k x.f1 x.f1).bind fun t => if t = true then some true else some false := by
    funext k
    simp [laws_eqMessage.f]
  rw [e]
  refine Ev.bind (eqStr_refl x.f1 h) ?_
  simpa using Ev.now true
theorem eqMsgS_loop (l : List S112) (h : smallMsgS l) : ∀ (d i : Nat), l.length - i = d → i ≤ l.length → Ev (fun k => laws_eqMessageS.l0 k l l (i : Int)) true
  | 0, i, hd, hi => by
    refine Ev.step (f := fun _ => some true) (fun k => ?_) (Ev.now true)
    simp only [laws_eqMessageS.l0]
    rw [if_neg (by omega)]
  | d + 1, i, hd, hi => by
    have hl := h.1
    have hx : rd_T112 l (i : Int) ∈ l := by
      have : rd_T112 l (i : Int) = l[i]'(by omega) := by simp [rd_T112, List.getD_eq_getElem?_getD, List.getElem?_eq_getElem (show i < l.length by omega)]
      rw [this]; exact List.getElem_mem _
    refine Ev.step (f := fun k => (laws_eqMessage.f k (rd_T112 l (i : Int)).f0 (rd_T112 l (i : Int)).f1 (rd_T112 l (i : Int)).f2 (rd_T112 l (i : Int)).f0 (rd_T112 l (i : Int)).f1 (rd_T112 l (i : Int)).f2).bind fun t => if t = true then laws_eqMessageS.l0 k l l ((i + 1 : Nat) : Int) else some false) (fun k => ?_) ?_
    · simp only [laws_eqMessageS.l0]
      rw [if_pos (by omega), if_pos (by omega), if_pos (by omega), show wrap64 ((i : Int) + 1) = ((i + 1 : Nat) : Int) by unfold wrap64; omega]
    · refine Ev.bind (eqMsg_refl _ (h.2 _ hx)) ?_
      simpa using eqMsgS_loop l h d (i + 1) (by omega) (by omega)
theorem eqMsgS_refl (l : List S112) (h : smallMsgS l) : Ev (fun k => laws_eqMessageS.f k l l) true := by
  have e : (fun k => laws_eqMessageS.f k l l) = fun k => laws_eqMessageS.l0 k l l 0 := by
    funext k
    simp [laws_eqMessageS.f]
  rw [e]
  exact eqMsgS_loop l h _ 0 rfl (Nat.zero_le _)
def wMsg (x : S140) : Nat := x.f1.length
def wMsgS : List S140 → Nat
  | [] => 0
  | x :: t => 1 + wMsg x + wMsgS t
theorem c_wMsgS : ∀ l : List S140, cMsgS (cvMsgS l) ≤ 16 * wMsgS l
  | [] => Nat.le_refl _
  | x :: t => by
    have h1 := c_wMsgS t
    have e : cMsgS (cvMsgS (x :: t)) = cMsg (cvMsg x) + cMsgS (cvMsgS t) := rfl
    have e2 : cMsg (cvMsg x) = 2 + x.f1.length := rfl
    have e3 : wMsgS (x :: t) = 1 + wMsg x + wMsgS t := rfl
    have e4 : wMsg x = x.f1.length := rfl
    omega
theorem szMsg_tells (x : S140) (hb : bdMsg x) (a : Int) (h0 : 0 ≤ a) (h1 : a ≤ 1048576) : ∃ r, Ev (fun k => laws_szMessage.f k x.f0 x.f1 x.f2 a) r ∧ (r < 0 ∨ (0 ≤ r ∧ r + wMsg x ≤ a ∧ okMsg x)) := by
  unfold laws_szMessage.f
  obtain ⟨r1, e1, g1⟩ := szStr_tells x.f1 hb a (by omega) (by omega)
  refine ⟨if r1 < 0 then -1 else r1, Ev.bind e1 ?_, ?_⟩
  · by_cases c : r1 < 0
    · simpa [c] using Ev.now (-1 : Int)
    · simpa [c] using Ev.now r1
  · rcases g1 with g | g
    · left; rw [if_pos g]; omega
    · right; rw [if_neg (by omega)]; exact ⟨g.1, by have := g.2.1; simp only [wMsg]; omega, g.2.2⟩
theorem szMsgS_loop (l : List S140) (hb : ∀ x ∈ l, bdMsg x) (hl : l.length ≤ 4194304) : ∀ (d i : Nat) (a : Int), l.length - i = d → i ≤ l.length → 0 ≤ a → a ≤ 1048576 → ∃ r, Ev (fun k => laws_szMessageS.l0 k l a (i : Int)) r ∧ (r < 0 ∨ (0 ≤ r ∧ r + (wMsgS (l.drop i) : Nat) ≤ a + (l.length : Int) - i ∧ ∀ x ∈ l.drop i, okMsg x))
  | 0, i, a, hd, hi, h0, h1 => by
    refine ⟨a, Ev.step (f := fun _ => some a) (fun k => ?_) (Ev.now a), .inr ⟨h0, ?_, fun x hx => ?_⟩⟩
    · simp only [laws_szMessageS.l0]
      rw [if_neg (by omega)]
    · rw [List.drop_of_length_le (by omega)]; simp only [wMsgS]; omega
    · rw [List.drop_of_length_le (by omega)] at hx
      cases hx
  | d + 1, i, a, hd, hi, h0, h1 => by
    have hrd : rd_T140 l (i : Int) = l[i]'(by omega) := by simp [rd_T140, List.getD_eq_getElem?_getD, List.getElem?_eq_getElem (show i < l.length by omega)]
    obtain ⟨r, e, g⟩ := szMsg_tells (rd_T140 l (i : Int)) (hb _ (by rw [hrd]; exact List.getElem_mem _)) a h0 h1
    have key : ∀ r2, Ev (fun k => if r < 0 then some (-1) else laws_szMessageS.l0 k l r ((i + 1 : Nat) : Int)) r2 → Ev (fun k => laws_szMessageS.l0 k l a (i : Int)) r2 := by
      intro r2 h2
      refine Ev.step (f := fun k => (laws_szMessage.f k (rd_T140 l (i : Int)).f0 (rd_T140 l (i : Int)).f1 (rd_T140 l (i : Int)).f2 a).bind fun t => if t < 0 then some (-1) else laws_szMessageS.l0 k l t ((i + 1 : Nat) : Int)) (fun k => ?_) (Ev.bind e h2)
      simp only [laws_szMessageS.l0]
      rw [if_pos (by omega), if_pos (by omega), show wrap64 ((i : Int) + 1) = ((i + 1 : Nat) : Int) by unfold wrap64; omega]
    by_cases c : r < 0
    · exact ⟨-1, key _ (by simpa [c] using Ev.now (-1 : Int)), .inl (by omega)⟩
    · rcases g with g | g
      · exact absurd g c
      · obtain ⟨r2, e2, g2⟩ := szMsgS_loop l hb hl d (i + 1) r (by omega) (by omega) g.1 (by omega)
        refine ⟨r2, key _ (by simpa [c] using e2), ?_⟩
        rcases g2 with g2 | g2
        · exact .inl g2
        · refine .inr ⟨g2.1, ?_, fun x hx => ?_⟩
          · rw [List.drop_eq_getElem_cons (by omega)]
            have h3 := g.2.1
            have h4 := g2.2.1
            rw [hrd] at h3
            simp only [wMsgS]
            omega
          rw [List.drop_eq_getElem_cons (by omega)] at hx
          rcases List.mem_cons.1 hx with rfl | hx
          · rw [← hrd]; exact g.2.2
          · exact g2.2.2 x hx
theorem szMsgS_tells (l : List S140) (hb : (∀ x ∈ l, bdMsg x) ∧ l.length ≤ 9223372036854775807) (a : Int) (h0 : 0 ≤ a) (h1 : a ≤ 1048576) : ∃ r, Ev (fun k => laws_szMessageS.f k l a) r ∧ (r < 0 ∨ (0 ≤ r ∧ r + (wMsgS l : Nat) ≤ a ∧ okMsgS l)) := by
  have hw : wrap64 (a - (l.length : Int)) = a - l.length := by have := hb.2; unfold wrap64; omega
  unfold laws_szMessageS.f
  rw [hw]
  by_cases c : a - (l.length : Int) < 0
  · exact ⟨-1, by simpa [c] using Ev.now (-1 : Int), .inl (by omega)⟩
  · simp only [if_neg c]
    obtain ⟨r, e, g⟩ := szMsgS_loop l hb.1 (by omega) _ 0 (a - l.length) rfl (Nat.zero_le _) (by omega) (by omega)
    refine ⟨r, e, ?_⟩
    rcases g with g | g
    · exact .inl g
    · exact .inr ⟨g.1, by have := g.2.1; rw [List.drop_zero] at this; omega, by omega, fun x hx => g.2.2 x (by simpa using hx)⟩
theorem lenMsgS_le : ∀ l : List S112, l.length ≤ cMsgS l
  | [] => Nat.le_refl _
  | x :: t => by have := lenMsgS_le t; simp only [List.length_cons, cMsgS, cMsg]; omega
theorem heldMsgS_loop : ∀ (q : List S112) (p : List S112) (a : Int), 0 ≤ a → a + cMsgS q ≤ 4611686018427387904 → p.length + q.length ≤ 4611686018427387904 → Ev (fun k => laws_heldMessageS.l0 k (p ++ mkMsgS a q) a (p.length : Int)) (a + cMsgS q)
  | [], p, a, h0, h1, h2 => by
    have e : a + ((cMsgS ([] : List S112) : Nat) : Int) = a := by simp [cMsgS]
    rw [e]
    refine Ev.step (f := fun _ => some a) (fun k => ?_) (Ev.now a)
    simp [laws_heldMessageS.l0, mkMsgS]
  | x :: q, p, a, h0, h1, h2 => by
    have hc : ((cMsgS (x :: q) : Nat) : Int) = cMsg x + cMsgS q := by simp [cMsgS]
    have hrd : rd_T112 (p ++ mkMsgS a (x :: q)) (p.length : Int) = mkMsg a x := by simp [rd_T112, mkMsgS]
    have hlen : (p ++ mkMsgS a (x :: q)).length = p.length + q.length + 1 := by simp [mkMsgS, mkMsgS_len]; omega
    have hcx : cMsg x = 2 + x.f1.length := rfl
    simp only [List.length_cons] at h2
    have ih := heldMsgS_loop q (p ++ [mkMsg a x]) (a + cMsg x) (by omega) (by omega) (by simp; omega)
    have e1 : (p ++ [mkMsg a x]) ++ mkMsgS (a + cMsg x) q = p ++ mkMsgS a (x :: q) := by simp [mkMsgS]
    have e2 : (((p ++ [mkMsg a x]).length : Nat) : Int) = (p.length : Int) + 1 := by simp
    rw [e1, e2] at ih
    rw [hc, show a + ((cMsg x : Int) + cMsgS q) = a + cMsg x + cMsgS q by omega]
    generalize p ++ mkMsgS a (x :: q) = L at *
    have hw0 : wrap64 ((p.length : Int) + 1) = (p.length : Int) + 1 := by unfold wrap64; omega
    have hk0 : wrap64 (a + 1) = a + 1 := by unfold wrap64; omega
    have hk1 : wrap64 ((a + 1) + 1) = (a + 1) + 1 := by unfold wrap64; omega
    have hk2 : wrap64 (((a + 1) + (x.f1.length : Nat)) + 1) = ((a + 1) + (x.f1.length : Nat)) + 1 := by unfold wrap64; omega
    obtain ⟨K0, hK0⟩ := ih
    obtain ⟨K2, hK2⟩ := heldStr_tells x.f1 (a + 1) (by omega) (by omega) (by omega)
    replace hK2 := fun k => (show K2 ≤ k → laws_heldStringS.f k (mkStr (a + 1) x.f1) (a + 1) = some _ from hK2 k)
    refine ⟨K0 + K2 + 65, fun k hk => ?_⟩
    obtain ⟨k, rfl⟩ : ∃ m, k = m + 1 := ⟨k - 1, by omega⟩
    simp only [laws_heldMessageS.l0]
    rw [if_pos (by omega), if_pos (by omega), hrd]
    (try simp only [hk0, hk1, hk2])
    rw [if_pos (show (mkMsg a x).f0 = a from rfl)]
    rw [show (mkMsg a x).f1 = mkStr (a + 1) x.f1 from rfl, hK2 k (by omega)]
    simp only [Option.bind_some]
    rw [if_neg (by omega)]
    (try simp only [hk0, hk1, hk2])
    rw [if_neg (by show ¬ ((((a + 1) + (x.f1.length : Nat)) % 3 == 0) != (Int.tmod (((a + 1) + (x.f1.length : Nat))) 3 == 0)) = true; rw [tmod_eq _ (by omega)]; simp)]
    rw [hw0]
    have hfin : (((a + 1) + (x.f1.length : Nat)) + 1) = a + ((cMsg x : Nat) : Int) := by rw [hcx]; omega
    rw [hfin]
    exact hK0 k (by omega)
theorem heldMsgS_tells (l : List S112) (a : Int) (h0 : 0 ≤ a) (h1 : a + cMsgS l ≤ 4611686018427387904) (h2 : l.length ≤ 4611686018427387904) : Ev (fun k => laws_heldMessageS.f k (mkMsgS a l) a) (a + cMsgS l) := by
  have h := heldMsgS_loop l [] a h0 h1 (by simpa using h2)
  simpa [laws_heldMessageS.f] using h
/-! ### impl.Watch -/
def smallWat (x : S76) : Prop := smallMsgS x.f5
def smallWatS (l : List S76) : Prop := l.length ≤ 4611686018427387904 ∧ ∀ x ∈ l, smallWat x
theorem eqWat_refl (x : S76) (h : smallWat x) : Ev (fun k => laws_eqWatch.f k x.f0 x.f1 x.f2 x.f3 x.f4 x.f5 x.f0 x.f1 x.f2 x.f3 x.f4 x.f5) true := by
  have e : (fun k => laws_eqWatch.f k x.f0 x.f1 x.f2 x.f3 x.f4 x.f5 x.f0 x.f1 x.f2 x.f3 x.f4 x.f5) = fun k => (laws_eqMessageS.f k x.f5 x.f5).bind fun t => if t = true then some true else some false := by
    funext k
    simp [laws_eqWatch.f]
  rw [e]
  refine Ev.bind (eqMsgS_refl x.f5 h) ?_
  simpa using Ev.now true
theorem eqWatS_loop (l : List S76) (h : smallWatS l) : ∀ (d i : Nat), l.length - i = d → i ≤ l.length → Ev (fun k => laws_eqWatchS.l0 k l l (i : Int)) true
  | 0, i, hd, hi => by
    refine Ev.step (f := fun _ => some true) (fun k => ?_) (Ev.now true)
    simp only [laws_eqWatchS.l0]
    rw [if_neg (by omega)]
  | d + 1, i, hd, hi => by
    have hl := h.1
    have hx : rd_T76 l (i : Int) ∈ l := by
      have : rd_T76 l (i : Int) = l[i]'(by omega) := by simp [rd_T76, List.getD_eq_getElem?_getD, List.getElem?_eq_getElem (show i < l.length by omega)]
      rw [this]; exact List.getElem_mem _
    refine Ev.step (f := fun k => (laws_eqWatch.f k (rd_T76 l (i : Int)).f0 (rd_T76 l (i : Int)).f1 (rd_T76 l (i : Int)).f2 (rd_T76 l (i : Int)).f3 (rd_T76 l (i : Int)).f4 (rd_T76 l (i : Int)).f5 (rd_T76 l (i : Int)).f0 (rd_T76 l (i : Int)).f1 (rd_T76 l (i : Int)).f2 (rd_T76 l (i : Int)).f3 (rd_T76 l (i : Int)).f4 (rd_T76 l (i : Int)).f5).bind fun t => if t = true then laws_eqWatchS.l0 k l l ((i + 1 : Nat) : Int) else some false) (fun k => ?_) ?_
    · simp only [laws_eqWatchS.l0]
      rw [if_pos (by omega), if_pos (by omega), if_pos (by omega), show wrap64 ((i : Int) + 1) = ((i + 1 : Nat) : Int) by unfold wrap64; omega]
    · refine Ev.bind (eqWat_refl _ (h.2 _ hx)) ?_
      simpa using eqWatS_loop l h d (i + 1) (by omega) (by omega)
theorem eqWatS_refl (l : List S76) (h : smallWatS l) : Ev (fun k => laws_eqWatchS.f k l l) true := by
  have e : (fun k => laws_eqWatchS.f k l l) = fun k => laws_eqWatchS.l0 k l l 0 := by
    funext k
    simp [laws_eqWatchS.f]
  rw [e]
  exact eqWatS_loop l h _ 0 rfl (Nat.zero_le _)
def wWat (x : S105) : Nat := wMsgS x.f5
def wWatS : List S105 → Nat
  | [] => 0
  | x :: t => 1 + wWat x + wWatS t
theorem c_wWatS : ∀ l : List S105, cWatS (cvWatS l) ≤ 16 * wWatS l
  | [] => Nat.le_refl _
  | x :: t => by
    have h1 := c_wWatS t
    have h2 := c_wMsgS x.f5
    have e : cWatS (cvWatS (x :: t)) = cWat (cvWat x) + cWatS (cvWatS t) := rfl
    have e2 : cWat (cvWat x) = 5 + cMsgS (cvMsgS x.f5) := rfl
    have e3 : wWatS (x :: t) = 1 + wWat x + wWatS t := rfl
    have e4 : wWat x = wMsgS x.f5 := rfl
    omega
theorem szWat_tells (x : S105) (hb : bdWat x) (a : Int) (h0 : 0 ≤ a) (h1 : a ≤ 1048576) : ∃ r, Ev (fun k => laws_szWatch.f k x.f0 x.f1 x.f2 x.f3 x.f4 x.f5 a) r ∧ (r < 0 ∨ (0 ≤ r ∧ r + wWat x ≤ a ∧ okWat x)) := by
  unfold laws_szWatch.f
  have w1 : wrap64 (a - (x.f1.size : Int)) = a - x.f1.size := by have := hb.1; unfold wrap64; omega
  rw [w1]
  by_cases c1 : a - (x.f1.size : Int) < 0
  · refine ⟨-1, ?_, .inl (by omega)⟩
    simpa [c1] using Ev.now (-1 : Int)
  · simp only [if_neg c1]
    obtain ⟨b1, hb1⟩ : ∃ b : Int, b = a - x.f1.size := ⟨_, rfl⟩
    rw [← hb1]
    obtain ⟨r5, e5, g5⟩ := szMsgS_tells x.f5 hb.2 b1 (by omega) (by omega)
    refine ⟨if r5 < 0 then -1 else r5, Ev.bind e5 ?_, ?_⟩
    · by_cases c : r5 < 0
      · simpa [c] using Ev.now (-1 : Int)
      · simpa [c] using Ev.now r5
    · rcases g5 with g | g
      · left; rw [if_pos g]; omega
      · right; rw [if_neg (by omega)]; exact ⟨g.1, by have := g.2.1; simp only [wWat]; omega, g.2.2⟩
theorem szWatS_loop (l : List S105) (hb : ∀ x ∈ l, bdWat x) (hl : l.length ≤ 4194304) : ∀ (d i : Nat) (a : Int), l.length - i = d → i ≤ l.length → 0 ≤ a → a ≤ 1048576 → ∃ r, Ev (fun k => laws_szWatchS.l0 k l a (i : Int)) r ∧ (r < 0 ∨ (0 ≤ r ∧ r + (wWatS (l.drop i) : Nat) ≤ a + (l.length : Int) - i ∧ ∀ x ∈ l.drop i, okWat x))
  | 0, i, a, hd, hi, h0, h1 => by
    refine ⟨a, Ev.step (f := fun _ => some a) (fun k => ?_) (Ev.now a), .inr ⟨h0, ?_, fun x hx => ?_⟩⟩
    · simp only [laws_szWatchS.l0]
      rw [if_neg (by omega)]
    · rw [List.drop_of_length_le (by omega)]; simp only [wWatS]; omega
    · rw [List.drop_of_length_le (by omega)] at hx
      cases hx
  | d + 1, i, a, hd, hi, h0, h1 => by
    have hrd : rd_T105 l (i : Int) = l[i]'(by omega) := by simp [rd_T105, List.getD_eq_getElem?_getD, List.getElem?_eq_getElem (show i < l.length by omega)]
    obtain ⟨r, e, g⟩ := szWat_tells (rd_T105 l (i : Int)) (hb _ (by rw [hrd]; exact List.getElem_mem _)) a h0 h1
    have key : ∀ r2, Ev (fun k => if r < 0 then some (-1) else laws_szWatchS.l0 k l r ((i + 1 : Nat) : Int)) r2 → Ev (fun k => laws_szWatchS.l0 k l a (i : Int)) r2 := by
      intro r2 h2
      refine Ev.step (f := fun k => (laws_szWatch.f k (rd_T105 l (i : Int)).f0 (rd_T105 l (i : Int)).f1 (rd_T105 l (i : Int)).f2 (rd_T105 l (i : Int)).f3 (rd_T105 l (i : Int)).f4 (rd_T105 l (i : Int)).f5 a).bind fun t => if t < 0 then some (-1) else laws_szWatchS.l0 k l t ((i + 1 : Nat) : Int)) (fun k => ?_) (Ev.bind e h2)
      simp only [laws_szWatchS.l0]
      rw [if_pos (by omega), if_pos (by omega), show wrap64 ((i : Int) + 1) = ((i + 1 : Nat) : Int) by unfold wrap64; omega]
    by_cases c : r < 0
    · exact ⟨-1, key _ (by simpa [c] using Ev.now (-1 : Int)), .inl (by omega)⟩
    · rcases g with g | g
      · exact absurd g c
      · obtain ⟨r2, e2, g2⟩ := szWatS_loop l hb hl d (i + 1) r (by omega) (by omega) g.1 (by omega)
        refine ⟨r2, key _ (by simpa [c] using e2), ?_⟩
        rcases g2 with g2 | g2
        · exact .inl g2
        · refine .inr ⟨g2.1, ?_, fun x hx => ?_⟩
          · rw [List.drop_eq_getElem_cons (by omega)]
            have h3 := g.2.1
            have h4 := g2.2.1
            rw [hrd] at h3
            simp only [wWatS]
            omega
          rw [List.drop_eq_getElem_cons (by omega)] at hx
          rcases List.mem_cons.1 hx with rfl | hx
          · rw [← hrd]; exact g.2.2
          · exact g2.2.2 x hx
theorem szWatS_tells (l : List S105) (hb : (∀ x ∈ l, bdWat x) ∧ l.length ≤ 9223372036854775807) (a : Int) (h0 : 0 ≤ a) (h1 : a ≤ 1048576) : ∃ r, Ev (fun k => laws_szWatchS.f k l a) r ∧ (r < 0 ∨ (0 ≤ r ∧ r + (wWatS l : Nat) ≤ a ∧ okWatS l)) := by
  have hw : wrap64 (a - (l.length : Int)) = a - l.length := by have := hb.2; unfold wrap64; omega
  unfold laws_szWatchS.f
  rw [hw]
  by_cases c : a - (l.length : Int) < 0
  · exact ⟨-1, by simpa [c] using Ev.now (-1 : Int), .inl (by omega)⟩
  · simp only [if_neg c]
    obtain ⟨r, e, g⟩ := szWatS_loop l hb.1 (by omega) _ 0 (a - l.length) rfl (Nat.zero_le _) (by omega) (by omega)
    refine ⟨r, e, ?_⟩
    rcases g with g | g
    · exact .inl g
    · exact .inr ⟨g.1, by have := g.2.1; rw [List.drop_zero] at this; omega, by omega, fun x hx => g.2.2 x (by simpa using hx)⟩
theorem lenWatS_le : ∀ l : List S76, l.length ≤ cWatS l
  | [] => Nat.le_refl _
  | x :: t => by have := lenWatS_le t; simp only [List.length_cons, cWatS, cWat]; omega
theorem heldWatS_loop : ∀ (q : List S76) (p : List S76) (a : Int), 0 ≤ a → a + cWatS q ≤ 4611686018427387904 → p.length + q.length ≤ 4611686018427387904 → Ev (fun k => laws_heldWatchS.l0 k (p ++ mkWatS a q) a (p.length : Int)) (a + cWatS q)
  | [], p, a, h0, h1, h2 => by
    have e : a + ((cWatS ([] : List S76) : Nat) : Int) = a := by simp [cWatS]
    rw [e]
    refine Ev.step (f := fun _ => some a) (fun k => ?_) (Ev.now a)
    simp [laws_heldWatchS.l0, mkWatS]
  | x :: q, p, a, h0, h1, h2 => by
    have hc : ((cWatS (x :: q) : Nat) : Int) = cWat x + cWatS q := by simp [cWatS]
    have hrd : rd_T76 (p ++ mkWatS a (x :: q)) (p.length : Int) = mkWat a x := by simp [rd_T76, mkWatS]
    have hlen : (p ++ mkWatS a (x :: q)).length = p.length + q.length + 1 := by simp [mkWatS, mkWatS_len]; omega
    have hcx : cWat x = 5 + cMsgS x.f5 := rfl
    simp only [List.length_cons] at h2
    have ih := heldWatS_loop q (p ++ [mkWat a x]) (a + cWat x) (by omega) (by omega) (by simp; omega)
    have e1 : (p ++ [mkWat a x]) ++ mkWatS (a + cWat x) q = p ++ mkWatS a (x :: q) := by simp [mkWatS]
    have e2 : (((p ++ [mkWat a x]).length : Nat) : Int) = (p.length : Int) + 1 := by simp
    rw [e1, e2] at ih
    rw [hc, show a + ((cWat x : Int) + cWatS q) = a + cWat x + cWatS q by omega]
    generalize p ++ mkWatS a (x :: q) = L at *
    have hw0 : wrap64 ((p.length : Int) + 1) = (p.length : Int) + 1 := by unfold wrap64; omega
    have hk0 : wrap64 (a + 1) = a + 1 := by unfold wrap64; omega
    have hk1 : wrap64 ((a + 1) + 1) = (a + 1) + 1 := by unfold wrap64; omega
    have hk2 : wrap64 (((a + 1) + 1) + 1) = ((a + 1) + 1) + 1 := by unfold wrap64; omega
    have hk3 : wrap64 ((((a + 1) + 1) + 1) + 1) = (((a + 1) + 1) + 1) + 1 := by unfold wrap64; omega
    have hk4 : wrap64 (((((a + 1) + 1) + 1) + 1) + 1) = ((((a + 1) + 1) + 1) + 1) + 1 := by unfold wrap64; omega
    have hk5 : wrap64 ((((((a + 1) + 1) + 1) + 1) + 1) + 1) = (((((a + 1) + 1) + 1) + 1) + 1) + 1 := by unfold wrap64; omega
    obtain ⟨K0, hK0⟩ := ih
    have hle5 := lenMsgS_le x.f5
    obtain ⟨K6, hK6⟩ := heldMsgS_tells x.f5 (((((a + 1) + 1) + 1) + 1) + 1) (by omega) (by omega) (by omega)
    replace hK6 := fun k => (show K6 ≤ k → laws_heldMessageS.f k (mkMsgS (((((a + 1) + 1) + 1) + 1) + 1) x.f5) (((((a + 1) + 1) + 1) + 1) + 1) = some _ from hK6 k)
    refine ⟨K0 + K6 + 65, fun k hk => ?_⟩
    obtain ⟨k, rfl⟩ : ∃ m, k = m + 1 := ⟨k - 1, by omega⟩
    simp only [laws_heldWatchS.l0]
    rw [if_pos (by omega), if_pos (by omega), hrd]
    (try simp only [hk0, hk1, hk2, hk3, hk4, hk5])
    rw [if_pos (show (mkWat a x).f0 = a from rfl)]
    rw [at_rounds (laws_markText.mono ((a + 1))) (show 64 ≤ k by omega) (mt_some ((a + 1)) (by omega))]
    simp only [Option.bind_some]
    rw [if_pos (show (mkWat a x).f1.toList = (mt ((a + 1))).toList from rfl)]
    rw [if_pos (show (mkWat a x).f2 = ((a + 1) + 1) from rfl)]
    rw [if_pos (show (mkWat a x).f3 = (((a + 1) + 1) + 1) from rfl)]
    rw [if_neg (by show ¬ ((((((a + 1) + 1) + 1) + 1) % 3 == 0) != (Int.tmod (((((a + 1) + 1) + 1) + 1)) 3 == 0)) = true; rw [tmod_eq _ (by omega)]; simp)]
    rw [show (mkWat a x).f5 = mkMsgS (((((a + 1) + 1) + 1) + 1) + 1) x.f5 from rfl, hK6 k (by omega)]
    simp only [Option.bind_some]
    rw [if_neg (by omega)]
    (try simp only [hk0, hk1, hk2, hk3, hk4, hk5])
    rw [hw0]
    have hfin : ((((((a + 1) + 1) + 1) + 1) + 1) + (cMsgS x.f5 : Nat)) = a + ((cWat x : Nat) : Int) := by rw [hcx]; omega
    rw [hfin]
    exact hK0 k (by omega)
theorem heldWatS_tells (l : List S76) (a : Int) (h0 : 0 ≤ a) (h1 : a + cWatS l ≤ 4611686018427387904) (h2 : l.length ≤ 4611686018427387904) : Ev (fun k => laws_heldWatchS.f k (mkWatS a l) a) (a + cWatS l) := by
  have h := heldWatS_loop l [] a h0 h1 (by simpa using h2)
  simpa [laws_heldWatchS.f] using h
/-! ### impl.News -/
def smallNew (x : S87) : Prop := smallStrS x.f1
def smallNewS (l : List S87) : Prop := l.length ≤ 4611686018427387904 ∧ ∀ x ∈ l, smallNew x
theorem eqNew_refl (x : S87) (h : smallNew x) : Ev (fun k => laws_eqNews.f k x.f0 x.f1 x.f0 x.f1) true := by
  have e : (fun k => laws_eqNews.f k x.f0 x.f1 x.f0 x.f1) = fun k => (laws_eqStringS.f k x.f1 x.f1).bind fun t => if t = true then some true else some false := by
    funext k
    simp [laws_eqNews.f]
  rw [e]
  refine Ev.bind (eqStr_refl x.f1 h) ?_
  simpa using Ev.now true
theorem eqNewS_loop (l : List S87) (h : smallNewS l) : ∀ (d i : Nat), l.length - i = d → i ≤ l.length → Ev (fun k => laws_eqNewsS.l0 k l l (i : Int)) true
  | 0, i, hd, hi => by
    refine Ev.step (f := fun _ => some true) (fun k => ?_) (Ev.now true)
    simp only [laws_eqNewsS.l0]
    rw [if_neg (by omega)]
  | d + 1, i, hd, hi => by
    have hl := h.1
    have hx : rd_T87 l (i : Int) ∈ l := by
      have : rd_T87 l (i : Int) = l[i]'(by omega) := by simp [rd_T87, List.getD_eq_getElem?_getD, List.getElem?_eq_getElem (show i < l.length by omega)]
      rw [this]; exact List.getElem_mem _
    refine Ev.step (f := fun k => (laws_eqNews.f k (rd_T87 l (i : Int)).f0 (rd_T87 l (i : Int)).f1 (rd_T87 l (i : Int)).f0 (rd_T87 l (i : Int)).f1).bind fun t => if t = true then laws_eqNewsS.l0 k l l ((i + 1 : Nat) : Int) else some false) (fun k => ?_) ?_
    · simp only [laws_eqNewsS.l0]
      rw [if_pos (by omega), if_pos (by omega), if_pos (by omega), show wrap64 ((i : Int) + 1) = ((i + 1 : Nat) : Int) by unfold wrap64; omega]
    · refine Ev.bind (eqNew_refl _ (h.2 _ hx)) ?_
      simpa using eqNewS_loop l h d (i + 1) (by omega) (by omega)
theorem eqNewS_refl (l : List S87) (h : smallNewS l) : Ev (fun k => laws_eqNewsS.f k l l) true := by
  have e : (fun k => laws_eqNewsS.f k l l) = fun k => laws_eqNewsS.l0 k l l 0 := by
    funext k
    simp [laws_eqNewsS.f]
  rw [e]
  exact eqNewS_loop l h _ 0 rfl (Nat.zero_le _)
def wNew (x : S107) : Nat := x.f1.length
def wNewS : List S107 → Nat
  | [] => 0
  | x :: t => 1 + wNew x + wNewS t
theorem c_wNewS : ∀ l : List S107, cNewS (cvNewS l) ≤ 16 * wNewS l
  | [] => Nat.le_refl _
  | x :: t => by
    have h1 := c_wNewS t
    have e : cNewS (cvNewS (x :: t)) = cNew (cvNew x) + cNewS (cvNewS t) := rfl
    have e2 : cNew (cvNew x) = 1 + x.f1.length := rfl
    have e3 : wNewS (x :: t) = 1 + wNew x + wNewS t := rfl
    have e4 : wNew x = x.f1.length := rfl
    omega
theorem szNew_tells (x : S107) (hb : bdNew x) (a : Int) (h0 : 0 ≤ a) (h1 : a ≤ 1048576) : ∃ r, Ev (fun k => laws_szNews.f k x.f0 x.f1 a) r ∧ (r < 0 ∨ (0 ≤ r ∧ r + wNew x ≤ a ∧ okNew x)) := by
  unfold laws_szNews.f
  obtain ⟨r1, e1, g1⟩ := szStr_tells x.f1 hb a (by omega) (by omega)
  refine ⟨if r1 < 0 then -1 else r1, Ev.bind e1 ?_, ?_⟩
  · by_cases c : r1 < 0
    · simpa [c] using Ev.now (-1 : Int)
    · simpa [c] using Ev.now r1
  · rcases g1 with g | g
    · left; rw [if_pos g]; omega
    · right; rw [if_neg (by omega)]; exact ⟨g.1, by have := g.2.1; simp only [wNew]; omega, g.2.2⟩
theorem szNewS_loop (l : List S107) (hb : ∀ x ∈ l, bdNew x) (hl : l.length ≤ 4194304) : ∀ (d i : Nat) (a : Int), l.length - i = d → i ≤ l.length → 0 ≤ a → a ≤ 1048576 → ∃ r, Ev (fun k => laws_szNewsS.l0 k l a (i : Int)) r ∧ (r < 0 ∨ (0 ≤ r ∧ r + (wNewS (l.drop i) : Nat) ≤ a + (l.length : Int) - i ∧ ∀ x ∈ l.drop i, okNew x))
  | 0, i, a, hd, hi, h0, h1 => by
    refine ⟨a, Ev.step (f := fun _ => some a) (fun k => ?_) (Ev.now a), .inr ⟨h0, ?_, fun x hx => ?_⟩⟩
    · simp only [laws_szNewsS.l0]
      rw [if_neg (by omega)]
    · rw [List.drop_of_length_le (by omega)]; simp only [wNewS]; omega
    · rw [List.drop_of_length_le (by omega)] at hx
      cases hx
  | d + 1, i, a, hd, hi, h0, h1 => by
    have hrd : rd_T107 l (i : Int) = l[i]'(by omega) := by simp [rd_T107, List.getD_eq_getElem?_getD, List.getElem?_eq_getElem (show i < l.length by omega)]
    obtain ⟨r, e, g⟩ := szNew_tells (rd_T107 l (i : Int)) (hb _ (by rw [hrd]; exact List.getElem_mem _)) a h0 h1
    have key : ∀ r2, Ev (fun k => if r < 0 then some (-1) else laws_szNewsS.l0 k l r ((i + 1 : Nat) : Int)) r2 → Ev (fun k => laws_szNewsS.l0 k l a (i : Int)) r2 := by
      intro r2 h2
      refine Ev.step (f := fun k => (laws_szNews.f k (rd_T107 l (i : Int)).f0 (rd_T107 l (i : Int)).f1 a).bind fun t => if t < 0 then some (-1) else laws_szNewsS.l0 k l t ((i + 1 : Nat) : Int)) (fun k => ?_) (Ev.bind e h2)
      simp only [laws_szNewsS.l0]
      rw [if_pos (by omega), if_pos (by omega), show wrap64 ((i : Int) + 1) = ((i + 1 : Nat) : Int) by unfold wrap64; omega]
    by_cases c : r < 0
    · exact ⟨-1, key _ (by simpa [c] using Ev.now (-1 : Int)), .inl (by omega)⟩
    · rcases g with g | g
      · exact absurd g c
      · obtain ⟨r2, e2, g2⟩ := szNewS_loop l hb hl d (i + 1) r (by omega) (by omega) g.1 (by omega)
        refine ⟨r2, key _ (by simpa [c] using e2), ?_⟩
        rcases g2 with g2 | g2
        · exact .inl g2
        · refine .inr ⟨g2.1, ?_, fun x hx => ?_⟩
          · rw [List.drop_eq_getElem_cons (by omega)]
            have h3 := g.2.1
            have h4 := g2.2.1
            rw [hrd] at h3
            simp only [wNewS]
            omega
          rw [List.drop_eq_getElem_cons (by omega)] at hx
          rcases List.mem_cons.1 hx with rfl | hx
          · rw [← hrd]; exact g.2.2
          · exact g2.2.2 x hx
theorem szNewS_tells (l : List S107) (hb : (∀ x ∈ l, bdNew x) ∧ l.length ≤ 9223372036854775807) (a : Int) (h0 : 0 ≤ a) (h1 : a ≤ 1048576) : ∃ r, Ev (fun k => laws_szNewsS.f k l a) r ∧ (r < 0 ∨ (0 ≤ r ∧ r + (wNewS l : Nat) ≤ a ∧ okNewS l)) := by
  have hw : wrap64 (a - (l.length : Int)) = a - l.length := by have := hb.2; unfold wrap64; omega
  unfold laws_szNewsS.f
  rw [hw]
  by_cases c : a - (l.length : Int) < 0
  · exact ⟨-1, by simpa [c] using Ev.now (-1 : Int), .inl (by omega)⟩
  · simp only [if_neg c]
    obtain ⟨r, e, g⟩ := szNewS_loop l hb.1 (by omega) _ 0 (a - l.length) rfl (Nat.zero_le _) (by omega) (by omega)
    refine ⟨r, e, ?_⟩
    rcases g with g | g
    · exact .inl g
    · exact .inr ⟨g.1, by have := g.2.1; rw [List.drop_zero] at this; omega, by omega, fun x hx => g.2.2 x (by simpa using hx)⟩
theorem lenNewS_le : ∀ l : List S87, l.length ≤ cNewS l
  | [] => Nat.le_refl _
  | x :: t => by have := lenNewS_le t; simp only [List.length_cons, cNewS, cNew]; omega
theorem heldNewS_loop : ∀ (q : List S87) (p : List S87) (a : Int), 0 ≤ a → a + cNewS q ≤ 4611686018427387904 → p.length + q.length ≤ 4611686018427387904 → Ev (fun k => laws_heldNewsS.l0 k (p ++ mkNewS a q) a (p.length : Int)) (a + cNewS q)
  | [], p, a, h0, h1, h2 => by
    have e : a + ((cNewS ([] : List S87) : Nat) : Int) = a := by simp [cNewS]
    rw [e]
    refine Ev.step (f := fun _ => some a) (fun k => ?_) (Ev.now a)
    simp [laws_heldNewsS.l0, mkNewS]
  | x :: q, p, a, h0, h1, h2 => by
    have hc : ((cNewS (x :: q) : Nat) : Int) = cNew x + cNewS q := by simp [cNewS]
    have hrd : rd_T87 (p ++ mkNewS a (x :: q)) (p.length : Int) = mkNew a x := by simp [rd_T87, mkNewS]
    have hlen : (p ++ mkNewS a (x :: q)).length = p.length + q.length + 1 := by simp [mkNewS, mkNewS_len]; omega
    have hcx : cNew x = 1 + x.f1.length := rfl
    simp only [List.length_cons] at h2
    have ih := heldNewS_loop q (p ++ [mkNew a x]) (a + cNew x) (by omega) (by omega) (by simp; omega)
    have e1 : (p ++ [mkNew a x]) ++ mkNewS (a + cNew x) q = p ++ mkNewS a (x :: q) := by simp [mkNewS]
    have e2 : (((p ++ [mkNew a x]).length : Nat) : Int) = (p.length : Int) + 1 := by simp
    rw [e1, e2] at ih
    rw [hc, show a + ((cNew x : Int) + cNewS q) = a + cNew x + cNewS q by omega]
    generalize p ++ mkNewS a (x :: q) = L at *
    have hw0 : wrap64 ((p.length : Int) + 1) = (p.length : Int) + 1 := by unfold wrap64; omega
    have hk0 : wrap64 (a + 1) = a + 1 := by unfold wrap64; omega
    have hk1 : wrap64 ((a + 1) + 1) = (a + 1) + 1 := by unfold wrap64; omega
    obtain ⟨K0, hK0⟩ := ih
    obtain ⟨K2, hK2⟩ := heldStr_tells x.f1 (a + 1) (by omega) (by omega) (by omega)
    replace hK2 := fun k => (show K2 ≤ k → laws_heldStringS.f k (mkStr (a + 1) x.f1) (a + 1) = some _ from hK2 k)
    refine ⟨K0 + K2 + 65, fun k hk => ?_⟩
    obtain ⟨k, rfl⟩ : ∃ m, k = m + 1 := ⟨k - 1, by omega⟩
    simp only [laws_heldNewsS.l0]
    rw [if_pos (by omega), if_pos (by omega), hrd]
    (try simp only [hk0, hk1])
    rw [if_pos (show (mkNew a x).f0 = a from rfl)]
    rw [show (mkNew a x).f1 = mkStr (a + 1) x.f1 from rfl, hK2 k (by omega)]
    simp only [Option.bind_some]
    rw [if_neg (by omega)]
    (try simp only [hk0, hk1])
    rw [hw0]
    have hfin : ((a + 1) + (x.f1.length : Nat)) = a + ((cNew x : Nat) : Int) := by rw [hcx]; omega
    rw [hfin]
    exact hK0 k (by omega)
theorem heldNewS_tells (l : List S87) (a : Int) (h0 : 0 ≤ a) (h1 : a + cNewS l ≤ 4611686018427387904) (h2 : l.length ≤ 4611686018427387904) : Ev (fun k => laws_heldNewsS.f k (mkNewS a l) a) (a + cNewS l) := by
  have h := heldNewS_loop l [] a h0 h1 (by simpa using h2)
  simpa [laws_heldNewsS.f] using h
end Go.Proofs.YtmphkhkbegihaaaDoor.Plain
