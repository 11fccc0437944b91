/- The reference's own text of a tree as it is read; it is the canonical text where no number is out of range and no key comes twice. Plain. -/
import Derived.Test.YtndagnkhjlgjgaaGreatDoorNumW
import Derived.WideAt
import Derived.WideShapes
namespace Go.Proofs.YtndagnkhjlgjgaaGreatDoor.Tree
open Go Go.RowKit YtndagnkhjlgjgaaGreatDoorW.PrintWords Str Read
set_option linter.unusedVariables false
set_option linter.unusedSimpArgs false
def sortP {α : Type} (ps : List (ByteArray × α)) : List (ByteArray × α) := ps.foldl (fun m x => insK x m) []
def joinM (ps : List (ByteArray × List Int)) : List Int := ps.flatMap fun p => 44 :: (quo p.1 ++ 58 :: p.2)
def fixN (x : ByteArray) : ByteArray := if x.data.toList = [45, 48] then ⟨#[48]⟩ else x
mutual
def txs : T → List Int
 | .nul => [110, 117, 108, 108]
 | .tru => [116, 114, 117, 101]
 | .fls => [102, 97, 108, 115, 101]
 | .num x => byt (fixN x)
 | .str b => quo b
 | .arr l => 91 :: ((txsL l).drop 1 ++ [93])
 | .obj l => 123 :: ((joinM (sortP (txsM l))).drop 1 ++ [125])
def txsL : List T → List Int
 | [] => []
 | t :: l => 44 :: (txs t ++ txsL l)
def txsM : List (ByteArray × T) → List (ByteArray × List Int)
 | [] => []
 | (k, t) :: l => (k, txs t) :: txsM l
end
def NF (x : ByteArray) : Prop := ∃ l, NumB l ∧ (x.data.toList = l ∨ x.data.toList = 45 :: l)
mutual
def Okt : T → Prop
 | .num x => NF x
 | .str b => VU (byt b)
 | .arr l => OktL l
 | .obj l => OktM l
 | _ => True
def OktL : List T → Prop
 | [] => True
 | t :: l => Okt t ∧ OktL l
def OktM : List (ByteArray × T) → Prop
 | [] => True
 | (k, t) :: l => VU (byt k) ∧ Okt t ∧ OktM l
end
theorem itemsF_ok {s : ByteArray} {v : Nat → Option (T × Nat)} (hv : ∀ q t r, v q = some (t, r) → Okt t) : ∀ (k q : Nat) (l : List T) (r : Nat), itemsF s v k q = some (l, r) → OktL l
 | 0, q, l, r, h => by cases h
 | k + 1, q, l, r, h => by
  rw [itemsF] at h
  cases hq : v q with
  | none => rw [hq] at h; cases h
  | some x =>
   obtain ⟨t, r1⟩ := x
   rw [hq] at h
   have h1 := hv q t r1 hq
   simp only at h
   by_cases c1 : isAt s (skip s r1) 93 = true
   ·rw [if_pos c1] at h
    injection h with h
    injection h with h _
    subst h
    rw [OktL]
    exact ⟨h1, by rw [OktL]; trivial⟩
   ·rw [if_neg c1] at h
    by_cases c2 : isAt s (skip s r1) 44 = true
    ·rw [if_pos c2] at h
     cases h3 : itemsF s v k (skip s (skip s r1 + 1)) with
     | none => rw [h3] at h; cases h
     | some y =>
      rw [h3] at h
      injection h with h
      injection h with h _
      subst h
      rw [OktL]
      exact ⟨h1, itemsF_ok hv k _ y.1 y.2 h3⟩
    ·rw [if_neg c2] at h; cases h
theorem membersF_ok {s : ByteArray} {v : Nat → Option (T × Nat)} (hv : ∀ q t r, v q = some (t, r) → Okt t) : ∀ (k q : Nat) (l : List (ByteArray × T)) (r : Nat), membersF s v k q = some (l, r) → OktM l
 | 0, q, l, r, h => by cases h
 | k + 1, q, l, r, h => by
  rw [membersF] at h
  cases hq : strF s q with
  | none => rw [hq] at h; cases h
  | some x =>
   obtain ⟨b, r1⟩ := x
   rw [hq] at h
   have h1 := VU_strF hq
   have h1 : VU (byt (strOfNums b)) := by rw [byt_str _ (VU.range h1)]; exact h1
   simp only at h
   by_cases c0 : isAt s (skip s r1) 58 = true
   ·rw [if_pos c0] at h
    cases h7 : v (skip s (skip s r1 + 1)) with
    | none => rw [h7] at h; cases h
    | some z =>
     obtain ⟨t, r2⟩ := z
     rw [h7] at h
     have h8 := hv _ t r2 h7
     simp only at h
     by_cases c1 : isAt s (skip s r2) 125 = true
     ·rw [if_pos c1] at h
      injection h with h
      injection h with h _
      subst h
      rw [OktM]
      exact ⟨h1, h8, by rw [OktM]; trivial⟩
     ·rw [if_neg c1] at h
      by_cases c2 : isAt s (skip s r2) 44 = true
      ·rw [if_pos c2] at h
       cases h3 : membersF s v k (skip s (skip s r2 + 1)) with
       | none => rw [h3] at h; cases h
       | some y =>
        rw [h3] at h
        injection h with h
        injection h with h _
        subst h
        rw [OktM]
        exact ⟨h1, h8, membersF_ok hv k _ y.1 y.2 h3⟩
      ·rw [if_neg c2] at h; cases h
   ·rw [if_neg c0] at h; cases h
theorem val_ok (s : ByteArray) : ∀ (d p : Nat) (t : T) (q : Nat), val s d p = some (t, q) → Okt t
 | 0, p, t, q, h => by cases h
 | d + 1, p, t, q, h => by
  have ih := val_ok s d
  rw [val] at h
  split at h
  ·split at h
   ·injection h with h
    injection h with h _
    subst h
    rw [Okt, OktL]
    trivial
   ·cases h1 : itemsF s (fun q => val s d q) s.size (skip s (p + 1)) with
    | none => rw [h1] at h; cases h
    | some x =>
     rw [h1] at h
     injection h with h
     injection h with h _
     subst h
     rw [Okt]
     exact itemsF_ok (v := fun q => val s d q) (fun q t r hh => ih q t r hh) _ _ x.1 x.2 h1
  ·split at h
   ·split at h
    ·injection h with h
     injection h with h _
     subst h
     rw [Okt, OktM]
     trivial
    ·cases h1 : membersF s (fun q => val s d q) s.size (skip s (p + 1)) with
     | none => rw [h1] at h; cases h
     | some x =>
      rw [h1] at h
      injection h with h
      injection h with h _
      subst h
      rw [Okt]
      exact membersF_ok (v := fun q => val s d q) (fun q t r hh => ih q t r hh) _ _ x.1 x.2 h1
   ·split at h
    ·cases h1 : strF s p with
     | none => rw [h1] at h; cases h
     | some x =>
      rw [h1] at h
      injection h with h
      injection h with h _
      subst h
      rw [Okt]
      have h1 : VU x.1 := VU_strF (q := x.2) h1
      rw [byt_str _ (VU.range h1)]
      exact h1
    ·split at h
     ·injection h with h
      injection h with h _
      subst h
      rw [Okt] <;> simp
     ·split at h
      ·injection h with h
       injection h with h _
       subst h
       rw [Okt] <;> simp
      ·split at h
       ·injection h with h
        injection h with h _
        subst h
        rw [Okt] <;> simp
       ·cases h1 : numF s p with
        | none => rw [h1] at h; cases h
        | some x =>
         rw [h1] at h
         injection h with h
         injection h with h _
         subst h
         rw [Okt]
         exact numF_form h1
theorem byt_mk (l : List UInt8) : byt ⟨l.toArray⟩ = l.map fun x => (x.toNat : Int) := by unfold byt; simp
theorem byt_of {x : ByteArray} {l : List UInt8} (h : x.data.toList = l) : byt x = l.map fun x => (x.toNat : Int) := by unfold byt; rw [h]
theorem fix_num {x : ByteArray} (h : NF x) (hb : bigB x = false) : byt (fixN x) = byt (numT (numV x)) := by
 obtain ⟨l, hl, he | he⟩ := h
 ·have hne : ¬ (x.data.toList = [45, 48]) := by
   rw [he]
   intro e
   have := hl.2.1 45 (by rw [e]; simp)
   unfold digB at this
   revert this
   decide
  unfold fixN
  rw [if_neg hne, byt_of he]
  unfold bigB at hb
  unfold numV
  rw [he, int_pos hl] at hb ⊢
  by_cases c : vD 0 l ≤ 9223372036854775807
  ·rw [if_pos c]
   simp only
   unfold numT
   rw [itoa_pos hl, byt_mk]
  ·rw [if_neg c] at hb; cases hb
 ·unfold bigB at hb
  unfold numV
  rw [he, int_neg hl] at hb ⊢
  by_cases c : vD 0 l ≤ 9223372036854775808
  ·rw [if_pos c]
   simp only
   unfold fixN numT
   by_cases e : l = [48]
   ·subst e
    rw [if_pos he]
    have e2 : vD 0 [48] = 0 := by rfl
    rw [e2]
    have e3 : Lib.itoa (-((0 : Nat) : Int)) = [48] := by
     unfold Lib.itoa
     rw [if_neg (by omega)]
     rw [show (-((0 : Nat) : Int)).toNat = 0 by omega, Lib.decDigits]
     simp
    rw [e3]
   ·rw [if_neg (by rw [he]; intro e2; injection e2 with _ e2; exact e e2), itoa_neg hl e, byt_of he]
    exact (byt_mk _).symm
  ·rw [if_neg c] at hb; cases hb
theorem mem_insK {α : Type} (x : ByteArray × α) : ∀ (l : List (ByteArray × α)) (z : ByteArray × α), z ∈ insK x l ↔ z = x ∨ z ∈ l
 | [], z => by simp [insK]
 | y :: r, z => by
  unfold insK
  split
  ·simp
  ·rw [List.mem_cons, mem_insK x r z, List.mem_cons]
   constructor
   ·rintro (h | h | h)
    ·exact .inr (.inl h)
    ·exact .inl h
    ·exact .inr (.inr h)
   ·rintro (h | h | h)
    ·exact .inr (.inl h)
    ·exact .inl h
    ·exact .inr (.inr h)
theorem insK_map {α β : Type} (f : α → β) (x : ByteArray × α) : ∀ l : List (ByteArray × α), (insK x l).map (fun p => (p.1, f p.2)) = insK (x.1, f x.2) (l.map fun p => (p.1, f p.2))
 | [] => rfl
 | y :: r => by
  rw [List.map_cons]
  unfold insK
  have e : keyB (x.1, f x.2) (y.1, f y.2) = keyB x y := rfl
  rw [e]
  by_cases h : keyB x y = true
  ·rw [if_pos h, if_pos h]; rfl
  ·rw [if_neg h, if_neg h, List.map_cons, insK_map f x r]
theorem foldK_map {α β : Type} (f : α → β) : ∀ (l m : List (ByteArray × α)), (l.foldl (fun m x => insK x m) m).map (fun p => (p.1, f p.2)) = (l.map fun p => (p.1, f p.2)).foldl (fun m x => insK x m) (m.map fun p => (p.1, f p.2))
 | [], m => rfl
 | x :: l, m => by
  rw [List.foldl_cons, foldK_map f l, List.map_cons, List.foldl_cons, insK_map]
theorem insK_sorted {α : Type} (x : ByteArray × α) : ∀ l : List (ByteArray × α), l.Pairwise (fun a b => keyB a b = true) → (∀ y ∈ l, y.1.data.toList ≠ x.1.data.toList) → (insK x l).Pairwise (fun a b => keyB a b = true)
 | [], _, _ => by simp [insK]
 | y :: r, h, hn => by
  rw [List.pairwise_cons] at h
  unfold insK
  by_cases hb : keyB x y = true
  ·rw [if_pos hb, List.pairwise_cons, List.pairwise_cons]
   refine ⟨fun z hz => ?_, h.1, h.2⟩
   rcases List.mem_cons.1 hz with rfl | hz
   ·exact hb
   ·exact Go.WideShapes.bytes_trans _ _ _ hb (h.1 z hz)
  ·rw [if_neg hb, List.pairwise_cons]
   refine ⟨fun z hz => ?_, insK_sorted x r h.2 (fun y hy => hn y (by simp [hy]))⟩
   rcases (mem_insK x r z).1 hz with rfl | hz
   ·rcases Go.WideAt.bytes_total y.1.data.toList z.1.data.toList (hn y (by simp)) with e | e
    ·exact e
    ·exact absurd e hb
   ·exact h.1 z hz
theorem putK_sorted {α : Type} (k : ByteArray) (a : α) (l : List (ByteArray × α)) (h : l.Pairwise (fun a b => keyB a b = true)) : (putK k a l).Pairwise (fun a b => keyB a b = true) := by
 unfold putK
 refine insK_sorted _ _ (h.filter _) ?_
 intro y hy
 rw [List.mem_filter] at hy
 simpa using hy.2
theorem WFM_iff : ∀ l : List (ByteArray × T), WFM l ↔ ∀ p ∈ l, VU (byt p.1) ∧ WF p.2
 | [] => by rw [WFM]; simp
 | (k, t) :: l => by
  rw [WFM, WFM_iff l]
  constructor
  ·rintro ⟨h1, h2, h3⟩ p hp
   rcases List.mem_cons.1 hp with rfl | hp
   ·exact ⟨h1, h2⟩
   ·exact h3 p hp
  ·intro h
   have := h (k, t) (by simp)
   exact ⟨this.1, this.2, fun p hp => h p (by simp [hp])⟩
theorem putK_WF {k : ByteArray} {t : T} {m : List (ByteArray × T)} (hk : VU (byt k)) (ht : WF t) (hm : WFM m) : WFM (putK k t m) := by
 rw [WFM_iff] at hm ⊢
 intro p hp
 unfold putK at hp
 rcases (mem_insK _ _ _).1 hp with rfl | hp
 ·exact ⟨hk, ht⟩
 ·exact hm p (List.mem_filter.1 hp).1
mutual
theorem norm_WF : ∀ t, Okt t → WF (norm t)
 | .nul, _ => by rw [norm, WF] <;> simp
 | .tru, _ => by rw [norm, WF] <;> simp
 | .fls, _ => by rw [norm, WF] <;> simp
 | .num x, _ => by rw [norm, WF]; exact ⟨_, rfl⟩
 | .str b, h => by rw [norm, WF]; rwa [Okt] at h
 | .arr l, h => by rw [norm, WF]; rw [Okt] at h; exact normL_WF l h
 | .obj l, h => by
  rw [norm, WF]
  rw [Okt] at h
  exact normM_WF l [] h (by rw [WFM]; trivial) List.Pairwise.nil
theorem normL_WF : ∀ l, OktL l → WFL (normL l)
 | [], _ => by rw [normL, WFL]; trivial
 | t :: l, h => by
  rw [OktL] at h
  rw [normL, WFL]
  exact ⟨norm_WF t h.1, normL_WF l h.2⟩
theorem normM_WF : ∀ (l m : List (ByteArray × T)), OktM l → WFM m → m.Pairwise (fun a b => keyB a b = true) → WFM (normM m l) ∧ (normM m l).Pairwise (fun a b => keyB a b = true)
 | [], m, _, h1, h2 => by rw [normM]; exact ⟨h1, h2⟩
 | (k, t) :: l, m, h, h1, h2 => by
  rw [OktM] at h
  rw [normM]
  exact normM_WF l _ h.2.2 (putK_WF h.1 (norm_WF t h.2.1) h1) (putK_sorted k _ m h2)
end
theorem putK_new {k : ByteArray} {t : T} {m : List (ByteArray × T)} {p : List ByteArray} (hm : ∀ y ∈ m, y.1 ∈ p) (hk : hasKey p k = false) : putK k t m = insK (k, t) m := by
 unfold putK
 congr 1
 rw [List.filter_eq_self]
 intro y hy
 unfold hasKey at hk
 rw [List.any_eq_false] at hk
 have := hk y.1 (hm y hy)
 simpa using this
theorem normM_ins : ∀ (l m : List (ByteArray × T)) (p : List ByteArray), (∀ y ∈ m, y.1 ∈ p) → twiceM p l = false → normM m l = (l.map fun x => (x.1, norm x.2)).foldl (fun m x => insK x m) m
 | [], m, p, _, _ => by rw [normM]; rfl
 | (k, t) :: l, m, p, hm, h => by
  rw [twiceM] at h
  simp only [Bool.or_eq_false_iff] at h
  rw [normM, List.map_cons, List.foldl_cons, putK_new hm h.1.2]
  refine normM_ins l _ (p ++ [k]) ?_ h.2
  intro y hy
  rcases (mem_insK _ _ _).1 hy with rfl | hy
  ·simp
  ·simp [hm y hy]
theorem ctsM_join : ∀ l : List (ByteArray × T), ctsM l = joinM (l.map fun x => (x.1, cts x.2))
 | [] => by rw [ctsM]; rfl
 | (k, t) :: l => by
  rw [ctsM, ctsM_join l]
  unfold joinM
  simp [List.append_assoc]
mutual
theorem tx_ct : ∀ t, Okt t → big bigB t = false → twice t = false → txs t = cts (norm t)
 | .nul, _, _, _ => by rw [norm, txs, cts]
 | .tru, _, _, _ => by rw [norm, txs, cts]
 | .fls, _, _, _ => by rw [norm, txs, cts]
 | .num x, h, hb, _ => by
  rw [Okt] at h
  rw [big] at hb
  rw [norm, txs, cts]
  exact fix_num h hb
 | .str b, _, _, _ => by rw [norm, txs, cts]
 | .arr l, h, hb, ht => by
  rw [Okt] at h
  rw [big] at hb
  rw [twice] at ht
  rw [norm, txs, cts, tx_ctL l h hb ht]
 | .obj l, h, hb, ht => by
  rw [Okt] at h
  rw [big] at hb
  rw [twice] at ht
  rw [norm, txs, cts, tx_ctM l h hb [] ht, normM_ins l [] [] (by simp) ht, ctsM_join, foldK_map]
  unfold sortP
  rw [List.map_map]
  rfl
theorem tx_ctL : ∀ l, OktL l → bigL bigB l = false → twiceL l = false → txsL l = ctsL (normL l)
 | [], _, _, _ => by rw [normL, txsL, ctsL]
 | t :: l, h, hb, ht => by
  rw [OktL] at h
  rw [bigL, Bool.or_eq_false_iff] at hb
  rw [twiceL, Bool.or_eq_false_iff] at ht
  rw [normL, txsL, ctsL, tx_ct t h.1 hb.1 ht.1, tx_ctL l h.2 hb.2 ht.2]
theorem tx_ctM : ∀ l, OktM l → bigM bigB l = false → ∀ p, twiceM p l = false → txsM l = l.map fun x => (x.1, cts (norm x.2))
 | [], _, _, p, _ => by rw [txsM]; rfl
 | (k, t) :: l, h, hb, p, ht => by
  rw [OktM] at h
  rw [bigM, Bool.or_eq_false_iff] at hb
  rw [twiceM] at ht
  simp only [Bool.or_eq_false_iff] at ht
  rw [txsM, List.map_cons, tx_ct t h.2.1 hb.1 ht.1.1, tx_ctM l h.2.2 hb.2 _ ht.2]
end
theorem escI_len (c : Int) : (escI c).length ≤ 6 := by
 unfold escI
 repeat' split
 all_goals simp
theorem flat_len : ∀ l : List Int, (l.flatMap escI).length ≤ 6 * l.length
 | [] => by simp
 | c :: l => by
  rw [List.flatMap_cons, List.length_append, List.length_cons]
  have := flat_len l
  have := escI_len c
  omega
theorem quo_le (b : ByteArray) : (quo b).length ≤ 6 * b.size + 2 := by
 rw [quo_len]
 have := flat_len (byt b)
 rw [byt_len] at this
 omega
theorem insK_join (x : ByteArray × List Int) : ∀ l, (joinM (insK x l)).length = (joinM (x :: l)).length
 | [] => rfl
 | y :: r => by
  unfold insK
  split
  ·rfl
  ·have := insK_join x r
   unfold joinM at this ⊢
   simp only [List.flatMap_cons, List.length_append, List.length_cons] at this ⊢
   omega
theorem foldK_join : ∀ (l m : List (ByteArray × List Int)), (joinM (l.foldl (fun m x => insK x m) m)).length = (joinM l).length + (joinM m).length
 | [], m => by unfold joinM; simp
 | x :: l, m => by
  rw [List.foldl_cons, foldK_join l, insK_join]
  unfold joinM
  simp only [List.flatMap_cons, List.length_append, List.length_cons]
  omega
theorem sortP_join (l : List (ByteArray × List Int)) : (joinM (sortP l)).length = (joinM l).length := by
 unfold sortP
 rw [foldK_join]
 simp [joinM]
theorem fixN_len (x : ByteArray) : (byt (fixN x)).length ≤ x.size := by
 rw [byt_len]
 unfold fixN
 split
 ·rename_i h
  have : x.size = 2 := by
   have e : x.data.toList.length = 2 := by rw [h]; rfl
   simpa using e
  have e2 : (⟨#[48]⟩ : ByteArray).size = 1 := rfl
  omega
 ·exact Nat.le_refl _
theorem strOfNums_size (l : List Int) : (strOfNums l).size = l.length := by
 unfold strOfNums
 simp [ByteArray.size]
theorem itemsF_len {s : ByteArray} {v : Nat → Option (T × Nat)} (hv : ∀ q t r, v q = some (t, r) → q + 1 ≤ r ∧ r ≤ s.size) (hl : ∀ q t r, v q = some (t, r) → (txs t).length ≤ 26 * (r - q)) : ∀ (k q : Nat) (l : List T) (r : Nat), itemsF s v k q = some (l, r) → (txsL l).length ≤ 26 * (r - q)
 | 0, q, l, r, h => by cases h
 | k + 1, q, l, r, h => by
  rw [itemsF] at h
  cases hq : v q with
  | none => rw [hq] at h; cases h
  | some x =>
   obtain ⟨t, r1⟩ := x
   rw [hq] at h
   have h1 := hv q t r1 hq
   have h1l := hl q t r1 hq
   have h2 := runF_le isB s r1
   simp only at h
   by_cases c1 : isAt s (skip s r1) 93 = true
   ·rw [if_pos c1] at h
    injection h with h
    injection h with h h'
    subst h
    rw [txsL, txsL]
    simp only [List.length_cons, List.length_append, List.length_nil]
    unfold skip at *
    omega
   ·rw [if_neg c1] at h
    by_cases c2 : isAt s (skip s r1) 44 = true
    ·rw [if_pos c2] at h
     cases h3 : itemsF s v k (skip s (skip s r1 + 1)) with
     | none => rw [h3] at h; cases h
     | some y =>
      rw [h3] at h
      injection h with h
      injection h with h h'
      subst h
      have h4 := itemsF_len hv hl k _ y.1 y.2 h3
      have h6 := itemsF_le hv k _ y.1 y.2 h3
      have h5 := runF_le isB s (skip s r1 + 1)
      rw [txsL]
      simp only [List.length_cons, List.length_append]
      unfold skip at *
      omega
    ·rw [if_neg c2] at h; cases h
theorem membersF_len {s : ByteArray} {v : Nat → Option (T × Nat)} (hv : ∀ q t r, v q = some (t, r) → q + 1 ≤ r ∧ r ≤ s.size) (hl : ∀ q t r, v q = some (t, r) → (txs t).length ≤ 26 * (r - q)) : ∀ (k q : Nat) (l : List (ByteArray × T)) (r : Nat), membersF s v k q = some (l, r) → (joinM (txsM l)).length ≤ 26 * (r - q)
 | 0, q, l, r, h => by cases h
 | k + 1, q, l, r, h => by
  rw [membersF] at h
  cases hq : strF s q with
  | none => rw [hq] at h; cases h
  | some x =>
   obtain ⟨b, r1⟩ := x
   rw [hq] at h
   have h1 := strF_le hq
   have hb := quo_le (strOfNums b)
   rw [strOfNums_size] at hb
   have h2 := runF_le isB s r1
   simp only at h
   by_cases c0 : isAt s (skip s r1) 58 = true
   ·rw [if_pos c0] at h
    have := isAt_lt c0
    have h6 := runF_le isB s (skip s r1 + 1)
    cases h7 : v (skip s (skip s r1 + 1)) with
    | none => rw [h7] at h; cases h
    | some z =>
     obtain ⟨t, r2⟩ := z
     rw [h7] at h
     have h8 := hv _ t r2 h7
     have h8l := hl _ t r2 h7
     have h9 := runF_le isB s r2
     simp only at h
     by_cases c1 : isAt s (skip s r2) 125 = true
     ·rw [if_pos c1] at h
      injection h with h
      injection h with h h'
      subst h
      rw [txsM, txsM]
      unfold joinM
      simp only [List.flatMap_cons, List.flatMap_nil, List.length_cons, List.length_append, List.length_nil]
      unfold skip at *
      omega
     ·rw [if_neg c1] at h
      by_cases c2 : isAt s (skip s r2) 44 = true
      ·rw [if_pos c2] at h
       cases h3 : membersF s v k (skip s (skip s r2 + 1)) with
       | none => rw [h3] at h; cases h
       | some y =>
        rw [h3] at h
        injection h with h
        injection h with h h'
        subst h
        have h4 := membersF_le hv k _ y.1 y.2 h3
        have h4l := membersF_len hv hl k _ y.1 y.2 h3
        have h5 := runF_le isB s (skip s r2 + 1)
        rw [txsM]
        unfold joinM at h4l ⊢
        simp only [List.flatMap_cons, List.length_cons, List.length_append]
        unfold skip at *
        omega
      ·rw [if_neg c2] at h; cases h
   ·rw [if_neg c0] at h; cases h
theorem val_len (s : ByteArray) : ∀ (d p : Nat) (t : T) (q : Nat), val s d p = some (t, q) → (txs t).length ≤ 26 * (q - p)
 | 0, p, t, q, h => by cases h
 | d + 1, p, t, q, h => by
  have hle := val_le s (d + 1) p t q h
  have hsk := runF_le isB s (p + 1)
  have ih := val_len s d
  have il := val_le s d
  rw [val] at h
  split at h
  ·split at h
   ·injection h with h
    injection h with h h'
    subst h
    rw [txs, txsL]
    simp only [List.length_cons, List.length_append, List.length_nil, List.drop_nil]
    unfold skip at *
    omega
   ·cases h1 : itemsF s (fun q => val s d q) s.size (skip s (p + 1)) with
    | none => rw [h1] at h; cases h
    | some x =>
     rw [h1] at h
     injection h with h
     injection h with h h'
     subst h
     have h2 := itemsF_len (v := fun q => val s d q) (fun q t r hh => il q t r hh) (fun q t r hh => ih q t r hh) _ _ x.1 x.2 h1
     have h3 := itemsF_le (v := fun q => val s d q) (fun q t r hh => il q t r hh) _ _ x.1 x.2 h1
     rw [txs]
     simp only [List.length_cons, List.length_append, List.length_nil, List.length_drop]
     unfold skip at *
     omega
  ·split at h
   ·split at h
    ·injection h with h
     injection h with h h'
     subst h
     rw [txs, txsM]
     simp only [sortP, joinM, List.foldl_nil, List.flatMap_nil, List.length_cons, List.length_append, List.length_nil, List.drop_nil]
     unfold skip at *
     omega
    ·cases h1 : membersF s (fun q => val s d q) s.size (skip s (p + 1)) with
     | none => rw [h1] at h; cases h
     | some x =>
      rw [h1] at h
      injection h with h
      injection h with h h'
      subst h
      have h2 := membersF_len (v := fun q => val s d q) (fun q t r hh => il q t r hh) (fun q t r hh => ih q t r hh) _ _ x.1 x.2 h1
      have h3 := membersF_le (v := fun q => val s d q) (fun q t r hh => il q t r hh) _ _ x.1 x.2 h1
      rw [txs]
      simp only [List.length_cons, List.length_append, List.length_nil, List.length_drop, sortP_join]
      unfold skip at *
      omega
   ·split at h
    ·cases h1 : strF s p with
     | none => rw [h1] at h; cases h
     | some x =>
      rw [h1] at h
      injection h with h
      injection h with h h'
      subst h
      have h2 := strF_le (b := x.1) (q := x.2) h1
      have hb := quo_le (strOfNums x.1)
      rw [strOfNums_size] at hb
      rw [txs]
      omega
    ·split at h
     ·injection h with h
      injection h with h h'
      subst h
      rw [txs]
      simp only [List.length_cons, List.length_nil]
      omega
     ·split at h
      ·injection h with h
       injection h with h h'
       subst h
       rw [txs]
       simp only [List.length_cons, List.length_nil]
       omega
      ·split at h
       ·injection h with h
        injection h with h h'
        subst h
        rw [txs]
        simp only [List.length_cons, List.length_nil]
        omega
       ·cases h1 : numF s p with
        | none => rw [h1] at h; cases h
        | some x =>
         rw [h1] at h
         injection h with h
         injection h with h h'
         subst h
         rw [txs]
         have h2 := numF_le h1
         have h3 := fixN_len (s.extract p x)
         have h4 : (s.extract p x).size = x - p := by
          rw [ByteArray.size_extract]; omega
         omega
mutual
theorem txs_range : ∀ t, ∀ x ∈ txs t, 0 ≤ x ∧ x ≤ 255
 | .nul, x, h => by simp [txs] at h; omega
 | .tru, x, h => by simp [txs] at h; omega
 | .fls, x, h => by simp [txs] at h; omega
 | .num y, x, h => byt_range _ x (by simpa [txs] using h)
 | .str b, x, h => quo_range b x (by simpa [txs] using h)
 | .arr l, x, h => by
  rw [txs] at h
  simp only [List.mem_cons, List.mem_append, List.not_mem_nil, or_false] at h
  rcases h with rfl | h | rfl
  ·omega
  ·exact txsL_range l x (List.mem_of_mem_drop h)
  ·omega
 | .obj l, x, h => by
  rw [txs] at h
  simp only [List.mem_cons, List.mem_append, List.not_mem_nil, or_false] at h
  rcases h with rfl | h | rfl
  ·omega
  ·have h := List.mem_of_mem_drop h
   unfold joinM at h
   obtain ⟨p, hp, h⟩ := List.mem_flatMap.1 h
   have hp : p ∈ txsM l := by
    have key : ∀ (l m : List (ByteArray × List Int)), p ∈ l.foldl (fun m x => insK x m) m → p ∈ l ∨ p ∈ m := by
     intro l
     induction l with
     | nil => intro m h; exact .inr h
     | cons y l ih =>
      intro m h
      rcases ih _ h with h | h
      ·exact .inl (by simp [h])
      ·rcases (mem_insK _ _ _).1 h with rfl | h
       ·exact .inl (by simp)
       ·exact .inr h
    rcases key _ _ hp with h | h
    ·exact h
    ·simp at h
   simp only [List.mem_cons, List.mem_append] at h
   rcases h with rfl | h | rfl | h
   ·omega
   ·exact quo_range _ x h
   ·omega
   ·exact txsM_range l p hp x h
  ·omega
theorem txsL_range : ∀ l, ∀ x ∈ txsL l, 0 ≤ x ∧ x ≤ 255
 | [], x, h => by simp [txsL] at h
 | t :: l, x, h => by
  rw [txsL] at h
  simp only [List.mem_cons, List.mem_append] at h
  rcases h with rfl | h | h
  ·omega
  ·exact txs_range t x h
  ·exact txsL_range l x h
theorem txsM_range : ∀ l, ∀ p ∈ txsM l, ∀ x ∈ p.2, 0 ≤ x ∧ x ≤ 255
 | [], p, h, x, hx => by simp [txsM] at h
 | (k, t) :: l, p, h, x, hx => by
  rw [txsM] at h
  rcases List.mem_cons.1 h with rfl | h
  ·exact txs_range t x hx
  ·exact txsM_range l p h x hx
end
end Go.Proofs.YtndagnkhjlgjgaaGreatDoor.Tree
