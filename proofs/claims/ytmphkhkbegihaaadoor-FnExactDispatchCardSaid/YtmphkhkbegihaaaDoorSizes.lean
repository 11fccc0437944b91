/- What a hub's size says of its strings: plain. -/
import Derived.Test.YtmphkhkbegihaaaDoorDisp
namespace Go.Proofs.YtmphkhkbegihaaaDoor.HubLaw
open Go Go.RowKit Go.Proofs.YtmphkhkbegihaaaDoor.PHub Go.Proofs.YtmphkhkbegihaaaDoorW.PrintWords Go.Proofs.YtmphkhkbegihaaaDoor.Tree Go.Proofs.YtmphkhkbegihaaaDoor.Mark Go.Proofs.YtmphkhkbegihaaaDoor.To Go.Proofs.YtmphkhkbegihaaaDoor.Copy Go.Proofs.YtmphkhkbegihaaaDoor.Plain Go.Proofs.YtmphkhkbegihaaaDoor.SpecP Go.Proofs.YtmphkhkbegihaaaDoor.Open
set_option linter.unusedVariables false
set_option linter.unusedSimpArgs false

theorem szStr_inv0 (l : List ByteArray) (hb : ∀ x ∈ l, x.size ≤ 9223372036854775807) (hl : l.length ≤ 4611686018427387904) : ∀ (k : Nat) (a i r : Int), laws_szStringS.l0 k l a i = some r → 0 ≤ r → 0 ≤ a → a ≤ 1048576 → 0 ≤ i → r ≤ a ∧ ∀ (j : Nat) (h : j < l.length), i ≤ j → (l[j].size : Int) ≤ a
  | 0, a, i, r, h, _, _, _, _ => by simp [laws_szStringS.l0] at h
  | k + 1, a, i, r, h, hr, h0, h1, hi => by
    simp only [laws_szStringS.l0] at h
    by_cases c : i < (l.length : Int)
    · rw [if_pos c, if_pos hi] at h
      have hin : i.toNat < l.length := by omega
      have hrd : rdOf ByteArray.empty l i = l[i.toNat] := by simp [rdOf, List.getD_eq_getElem?_getD, List.getElem?_eq_getElem hin]
      have hx := hb _ (List.getElem_mem (l := l) (n := i.toNat) hin)
      rw [hrd] at h
      generalize hsz : (l[i.toNat].size : Int) = s at h
      have hs0 : 0 ≤ s := by omega
      have hs1 : s ≤ 9223372036854775807 := by omega
      rw [show wrap64 (a - s) = a - s by unfold wrap64; omega, show wrap64 (i + 1) = i + 1 by unfold wrap64; omega] at h
      by_cases c2 : a - s < 0
      · rw [if_pos c2] at h
        injection h with h
        omega
      · rw [if_neg c2] at h
        obtain ⟨g1, g2⟩ := szStr_inv0 l hb hl k (a - s) (i + 1) r h hr (by omega) (by omega) (by omega)
        refine ⟨by omega, fun j hj hij => ?_⟩
        by_cases e : (j : Int) = i
        · have : i.toNat = j := by omega
          subst this
          omega
        · have := g2 j hj (by omega)
          omega
    · rw [if_neg c] at h
      injection h with h
      exact ⟨by omega, fun j hj hij => by omega⟩
theorem szStr_inv (l : List ByteArray) (hb : (∀ x ∈ l, x.size ≤ 9223372036854775807) ∧ l.length ≤ 9223372036854775807) (k : Nat) (a r : Int) (h : laws_szStringS.f k l a = some r) (hr : 0 ≤ r) (h0 : 0 ≤ a) (h1 : a ≤ 1048576) : r ≤ a ∧ ∀ x ∈ l, (x.size : Int) ≤ a := by
  unfold laws_szStringS.f at h
  have hl2 := hb.2
  rw [show wrap64 (a - (l.length : Int)) = a - l.length by unfold wrap64; omega] at h
  by_cases c : a - (l.length : Int) < 0
  · rw [if_pos c] at h
    injection h with h
    omega
  · rw [if_neg c] at h
    obtain ⟨g1, g2⟩ := szStr_inv0 l hb.1 (by omega) k _ 0 r h hr (by omega) (by omega) (Int.le_refl _)
    refine ⟨by omega, fun x hx => ?_⟩
    obtain ⟨j, hj, rfl⟩ := List.mem_iff_getElem.1 hx
    have := g2 j hj (by omega)
    omega
theorem szNew_inv0 (l : List S107) (hb : ∀ x ∈ l, bdNew x) (hl : l.length ≤ 4611686018427387904) : ∀ (k : Nat) (a i r : Int), laws_szNewsS.l0 k l a i = some r → 0 ≤ r → 0 ≤ a → a ≤ 1048576 → 0 ≤ i → r ≤ a ∧ ∀ (j : Nat) (h : j < l.length), i ≤ j → ∀ x ∈ l[j].f1, (x.size : Int) ≤ a
  | 0, a, i, r, h, _, _, _, _ => by simp [laws_szNewsS.l0] at h
  | k + 1, a, i, r, h, hr, h0, h1, hi => by
    simp only [laws_szNewsS.l0] at h
    by_cases c : i < (l.length : Int)
    · rw [if_pos c, if_pos hi] at h
      have hin : i.toNat < l.length := by omega
      have hrd : rd_T107 l i = l[i.toNat] := by simp [rd_T107, List.getD_eq_getElem?_getD, List.getElem?_eq_getElem hin]
      have hx := hb _ (List.getElem_mem (l := l) (n := i.toNat) hin)
      rw [hrd, show wrap64 (i + 1) = i + 1 by unfold wrap64; omega] at h
      obtain ⟨t, e1, h⟩ := Option.bind_eq_some_iff.1 h
      unfold laws_szNews.f at e1
      obtain ⟨t2, e2, e3⟩ := Option.bind_eq_some_iff.1 e1
      by_cases c2 : t2 < 0
      · rw [if_pos c2] at e3
        injection e3 with e3
        rw [if_pos (by omega)] at h
        injection h with h
        omega
      · rw [if_neg c2] at e3
        injection e3 with e3
        subst e3
        rw [if_neg c2] at h
        obtain ⟨q1, q2⟩ := szStr_inv _ hx k a t2 e2 (by omega) h0 h1
        obtain ⟨g1, g2⟩ := szNew_inv0 l hb hl k t2 (i + 1) r h hr (by omega) (by omega) (by omega)
        refine ⟨by omega, fun j hj hij y hy => ?_⟩
        by_cases e : (j : Int) = i
        · have : i.toNat = j := by omega
          subst this
          exact q2 y hy
        · have := g2 j hj (by omega) y hy
          omega
    · rw [if_neg c] at h
      injection h with h
      exact ⟨by omega, fun j hj hij => by omega⟩
theorem szNew_inv (l : List S107) (hb : (∀ x ∈ l, bdNew x) ∧ l.length ≤ 9223372036854775807) (k : Nat) (a r : Int) (h : laws_szNewsS.f k l a = some r) (hr : 0 ≤ r) (h0 : 0 ≤ a) (h1 : a ≤ 1048576) : r ≤ a ∧ ∀ x ∈ l, ∀ y ∈ x.f1, (y.size : Int) ≤ a := by
  unfold laws_szNewsS.f at h
  have hl2 := hb.2
  rw [show wrap64 (a - (l.length : Int)) = a - l.length by unfold wrap64; omega] at h
  by_cases c : a - (l.length : Int) < 0
  · rw [if_pos c] at h
    injection h with h
    omega
  · rw [if_neg c] at h
    obtain ⟨g1, g2⟩ := szNew_inv0 l hb.1 (by omega) k _ 0 r h hr (by omega) (by omega) (Int.le_refl _)
    refine ⟨by omega, fun x hx y hy => ?_⟩
    obtain ⟨j, hj, rfl⟩ := List.mem_iff_getElem.1 hx
    have := g2 j hj (by omega) y hy
    omega
theorem szMsg_inv0 (l : List S140) (hb : ∀ x ∈ l, bdMsg x) (hl : l.length ≤ 4611686018427387904) : ∀ (k : Nat) (a i r : Int), laws_szMessageS.l0 k l a i = some r → 0 ≤ r → 0 ≤ a → a ≤ 1048576 → 0 ≤ i → r ≤ a
  | 0, a, i, r, h, _, _, _, _ => by simp [laws_szMessageS.l0] at h
  | k + 1, a, i, r, h, hr, h0, h1, hi => by
    simp only [laws_szMessageS.l0] at h
    by_cases c : i < (l.length : Int)
    · rw [if_pos c, if_pos hi] at h
      have hin : i.toNat < l.length := by omega
      have hrd : rd_T140 l i = l[i.toNat] := by simp [rd_T140, List.getD_eq_getElem?_getD, List.getElem?_eq_getElem hin]
      have hx := hb _ (List.getElem_mem (l := l) (n := i.toNat) hin)
      rw [hrd, show wrap64 (i + 1) = i + 1 by unfold wrap64; omega] at h
      obtain ⟨t, e1, h⟩ := Option.bind_eq_some_iff.1 h
      unfold laws_szMessage.f at e1
      obtain ⟨t2, e2, e3⟩ := Option.bind_eq_some_iff.1 e1
      by_cases c2 : t2 < 0
      · rw [if_pos c2] at e3
        injection e3 with e3
        rw [if_pos (by omega)] at h
        injection h with h
        omega
      · rw [if_neg c2] at e3
        injection e3 with e3
        subst e3
        rw [if_neg c2] at h
        obtain ⟨q1, q2⟩ := szStr_inv _ hx k a t2 e2 (by omega) h0 h1
        have g1 := szMsg_inv0 l hb hl k t2 (i + 1) r h hr (by omega) (by omega) (by omega)
        omega
    · rw [if_neg c] at h
      injection h with h
      omega
theorem szMsg_inv (l : List S140) (hb : (∀ x ∈ l, bdMsg x) ∧ l.length ≤ 9223372036854775807) (k : Nat) (a r : Int) (h : laws_szMessageS.f k l a = some r) (hr : 0 ≤ r) (h0 : 0 ≤ a) (h1 : a ≤ 1048576) : r ≤ a := by
  unfold laws_szMessageS.f at h
  have hl2 := hb.2
  rw [show wrap64 (a - (l.length : Int)) = a - l.length by unfold wrap64; omega] at h
  by_cases c : a - (l.length : Int) < 0
  · rw [if_pos c] at h
    injection h with h
    omega
  · rw [if_neg c] at h
    have g1 := szMsg_inv0 l hb.1 (by omega) k _ 0 r h hr (by omega) (by omega) (Int.le_refl _)
    omega
theorem szWat_inv0 (l : List S105) (hb : ∀ x ∈ l, bdWat x) (hl : l.length ≤ 4611686018427387904) : ∀ (k : Nat) (a i r : Int), laws_szWatchS.l0 k l a i = some r → 0 ≤ r → 0 ≤ a → a ≤ 1048576 → 0 ≤ i → r ≤ a ∧ ∀ (j : Nat) (h : j < l.length), i ≤ j → (l[j].f1.size : Int) ≤ a
  | 0, a, i, r, h, _, _, _, _ => by simp [laws_szWatchS.l0] at h
  | k + 1, a, i, r, h, hr, h0, h1, hi => by
    simp only [laws_szWatchS.l0] at h
    by_cases c : i < (l.length : Int)
    · rw [if_pos c, if_pos hi] at h
      have hin : i.toNat < l.length := by omega
      have hrd : rd_T105 l i = l[i.toNat] := by simp [rd_T105, List.getD_eq_getElem?_getD, List.getElem?_eq_getElem hin]
      have hx := hb _ (List.getElem_mem (l := l) (n := i.toNat) hin)
      rw [hrd, show wrap64 (i + 1) = i + 1 by unfold wrap64; omega] at h
      obtain ⟨t, e1, h⟩ := Option.bind_eq_some_iff.1 h
      unfold laws_szWatch.f at e1
      have hx1 := hx.1
      generalize hsz : (l[i.toNat].f1.size : Int) = s at e1
      rw [show wrap64 (a - s) = a - s by unfold wrap64; omega] at e1
      by_cases c1 : a - s < 0
      · rw [if_pos c1] at e1
        injection e1 with e1
        rw [if_pos (by omega)] at h
        injection h with h
        omega
      rw [if_neg c1] at e1
      obtain ⟨t2, e2, e3⟩ := Option.bind_eq_some_iff.1 e1
      by_cases c2 : t2 < 0
      · rw [if_pos c2] at e3
        injection e3 with e3
        rw [if_pos (by omega)] at h
        injection h with h
        omega
      · rw [if_neg c2] at e3
        injection e3 with e3
        subst e3
        rw [if_neg c2] at h
        have q1 := szMsg_inv _ hx.2 k (a - s) t2 e2 (by omega) (by omega) (by omega)
        obtain ⟨g1, g2⟩ := szWat_inv0 l hb hl k t2 (i + 1) r h hr (by omega) (by omega) (by omega)
        refine ⟨by omega, fun j hj hij => ?_⟩
        by_cases e : (j : Int) = i
        · have : i.toNat = j := by omega
          subst this
          omega
        · have := g2 j hj (by omega)
          omega
    · rw [if_neg c] at h
      injection h with h
      exact ⟨by omega, fun j hj hij => by omega⟩
theorem szWat_inv (l : List S105) (hb : (∀ x ∈ l, bdWat x) ∧ l.length ≤ 9223372036854775807) (k : Nat) (a r : Int) (h : laws_szWatchS.f k l a = some r) (hr : 0 ≤ r) (h0 : 0 ≤ a) (h1 : a ≤ 1048576) : r ≤ a ∧ ∀ x ∈ l, (x.f1.size : Int) ≤ a := by
  unfold laws_szWatchS.f at h
  have hl2 := hb.2
  rw [show wrap64 (a - (l.length : Int)) = a - l.length by unfold wrap64; omega] at h
  by_cases c : a - (l.length : Int) < 0
  · rw [if_pos c] at h
    injection h with h
    omega
  · rw [if_neg c] at h
    obtain ⟨g1, g2⟩ := szWat_inv0 l hb.1 (by omega) k _ 0 r h hr (by omega) (by omega) (Int.le_refl _)
    refine ⟨by omega, fun x hx => ?_⟩
    obtain ⟨j, hj, rfl⟩ := List.mem_iff_getElem.1 hx
    have := g2 j hj (by omega)
    omega
theorem szHub_inv (l0 : List S105) (l1 : List S107) (hb : bdHub l0 l1) (k : Nat) (r : Int) (h : laws_szHub.f k l0 l1 1048576 = some r) (hr : 0 ≤ r) : sizesW (cvWatS l0) ∧ sizesN (cvNewS l1) := by
  unfold laws_szHub.f at h
  obtain ⟨t, e1, h⟩ := Option.bind_eq_some_iff.1 h
  by_cases c : t < 0
  · rw [if_pos c] at h
    injection h with h
    omega
  rw [if_neg c] at h
  obtain ⟨t2, e2, h⟩ := Option.bind_eq_some_iff.1 h
  by_cases c2 : t2 < 0
  · rw [if_pos c2] at h
    injection h with h
    omega
  obtain ⟨g1, g2⟩ := szWat_inv l0 hb.1 k _ t e1 (by omega) (by omega) (by omega)
  obtain ⟨_, g4⟩ := szNew_inv l1 hb.2 k t t2 e2 (by omega) (by omega) (by omega)
  constructor
  · intro x hx
    obtain ⟨y, hy, rfl⟩ := List.mem_map.1 hx
    have := g2 y hy
    show y.f1.size ≤ _
    omega
  · intro x hx p hp
    obtain ⟨y, hy, rfl⟩ := List.mem_map.1 hx
    have := g4 y hy p hp
    omega
end Go.Proofs.YtmphkhkbegihaaaDoor.HubLaw
