/- The reference's l1Within and Canon: what they answer, and Canon's contract. -/
import Derived.Test.YtndagnkhjlgjgaaGreatDoorSzW
import Derived.Test.YtndagnkhjlgjgaaGreatDoorProg
import Derived.WalkKit
import Derived.LoopTactic
import Derived.Lib.Hide
import Derived.Lib.IndexMore
import Derived.Outline
namespace Go.Proofs.YtndagnkhjlgjgaaGreatDoor.Pf
open Go Go.RowKit YtndagnkhjlgjgaaGreatDoorW.PrintWords Str Tree Read PJt Own
set_option linter.unusedVariables false
set_option linter.unusedSimpArgs false
def codeF (s : ByteArray) : Int := if 20000 < s.size then 1 else match readT s with
 | none => 2
 | some (t, q) => if skip s q = s.size then (if big bigB t = true then 3 else if twice t = true then 4 else if dep (norm t) ≤ 100 ∧ cnt (norm t) ≤ 3000 then 0 else 5) else 2
def treeF (s : ByteArray) : T := match readT s with
 | none => .nul
 | some (t, _) => norm t
def canF (s : ByteArray) : ByteArray × Int := (if codeF s = 0 then ctx (treeF s) else ⟨#[]⟩, codeF s)
theorem canF_no {s : ByteArray} {c : Int} (h : codeF s = c) (h0 : c ≠ 0) : canF s = (⟨#[]⟩, c) := by
 unfold canF
 rw [h, if_neg h0]
theorem canF_ok {s : ByteArray} (h : codeF s = 0) : canF s = (ctx (treeF s), 0) := by
 unfold canF
 rw [h, if_pos rfl]
theorem codeF_some {s : ByteArray} {t : T} {q : Nat} (hb : ¬ 20000 < s.size) (hr : readT s = some (t, q)) : codeF s = if skip s q = s.size then (if big bigB t = true then 3 else if twice t = true then 4 else if dep (norm t) ≤ 100 ∧ cnt (norm t) ≤ 3000 then 0 else 5) else 2 := by
 unfold codeF
 rw [if_neg hb, hr]
theorem codeF_none {s : ByteArray} (hb : ¬ 20000 < s.size) (hr : readT s = none) : codeF s = 2 := by
 unfold codeF
 rw [if_neg hb, hr]
theorem codeF_long {s : ByteArray} (hb : 20000 < s.size) : codeF s = 1 := by
 unfold codeF
 rw [if_pos hb]
theorem readT_at (s : ByteArray) : readT s = val s (s.size + 1) (skip s 0) := rfl
theorem treeF_WF (s : ByteArray) : WF (treeF s) := by
 unfold treeF
 cases h : readT s with
 | none => simp only; rw [WF] <;> simp
 | some x =>
  obtain ⟨t, q⟩ := x
  exact norm_WF t (val_ok s _ _ t q h)
section
variable [Inhabited Rec]
theorem within_l0 (s : ByteArray) (hs : s.size ≤ 1000000) (HS : ∀ i : Nat, i ≤ s.size → spec_l1String.f s (i : Int) = some (strOfNums (strXF s i).1, ((strXF s i).2.1 : Int), (strXF s i).2.2)) :
  ∀ (n i k : Nat) (o m : Int), s.size < i + n → -(i : Int) ≤ o → o ≤ (i : Int) → 5 * n + 5 ≤ k → spec_l1Within.l0 k s o m (i : Int) = (if mosF s n i o m > 100 then (some false) else ((spec_l1Sizes.f s).bind fun bt => (if bt.1 ≤ 100 then (some (decide (bt.2 ≤ 3000))) else (some false)))) := by
 intro n
 induction n with
 | zero =>
  intro i k o m h1 h2 h3 hk
  obtain ⟨k, rfl⟩ : ∃ j, k = j + 1 := ⟨k - 1, by omega⟩
  rw [spec_l1Within.l0, if_neg (by omega)]
  rfl
 | succ n ih =>
  intro i k o m h1 h2 h3 hk
  obtain ⟨k, rfl⟩ : ∃ j, k = j + 5 := ⟨k - 5, by omega⟩
  rw [spec_l1Within.l0, mosF]
  by_cases hi : i < s.size
  ·rw [if_pos (by omega), if_pos (by omega), if_pos hi]
   have hng := nxt_gt s i hi
   have hopn : opn (bt s (i : Int)) o = (if bt s (i : Int) = 91 ∨ bt s (i : Int) = 123 then o + 1 else o) - (if bt s (i : Int) = 93 ∨ bt s (i : Int) = 125 then 1 else 0) := rfl
   have HWp := Lib.hid (show wrap64 (o + 1) = o + 1 from w64 (by omega) (by omega))
   have HWm := Lib.hid (show ∀ q : Int, -(i : Int) - 1 ≤ q → q ≤ (i : Int) + 1 → wrap64 (q - 1) = q - 1 from fun q g1 g2 => w64 (by omega) (by omega))
   have HIH := Lib.hid ih
   have e4 : ∀ o' : Int, -(i : Int) - 1 ≤ o' → o' ≤ (i : Int) + 1 → o' = opn (bt s (i : Int)) o → spec_l1Within.j4 (k + 1) s o' m (i : Int) = (if mosF s n (nxt s i) (opn (bt s (i : Int)) o) (max m (opn (bt s (i : Int)) o)) > 100 then (some false) else ((spec_l1Sizes.f s).bind fun bt => (if bt.1 ≤ 100 then (some (decide (bt.2 ≤ 3000))) else (some false)))) := by
    intro o' g1 g2 ho
    rw [← ho]
    have hstep : ∀ m' : Int, (if (bt s (i : Int)) = 34 then ((spec_l1String.f s (i : Int)).bind fun bt244 => (spec_l1Within.l0 k s o' m' bt244.2.1)) else (spec_l1Within.l0 k s o' m' (wrap64 ((i : Int) + 1)))) = (if mosF s n (nxt s i) o' m' > 100 then (some false) else ((spec_l1Sizes.f s).bind fun bt => (if bt.1 ≤ 100 then (some (decide (bt.2 ≤ 3000))) else (some false)))) := by
     intro m'
     have hg := HIH.out (nxt s i) k o' m' (by omega) (by omega) (by omega) (by omega)
     by_cases c : bt s (i : Int) = 34
     ·have hn : ((strXF s i).2.1 : Int) = ((nxt s i : Nat) : Int) := by unfold nxt; rw [if_pos c]
      have hS := HS i (by omega)
      rw [if_pos c, hS, Option.bind_some]
      simp only
      rw [hn, hg]
     ·have hn : wrap64 ((i : Int) + 1) = ((nxt s i : Nat) : Int) := by
       unfold nxt
       rw [if_neg c, w64 (by omega) (by omega)]
       omega
      rw [if_neg c, hn, hg]
    rw [spec_l1Within.j4]
    by_cases hgt : o' > m
    ·rw [if_pos hgt, if_pos (by omega), if_pos (by omega), hstep o', show max m o' = o' by omega]
    ·rw [if_neg hgt, if_pos (by omega), if_pos (by omega), hstep m, show max m o' = m by omega]
   have e2 : ∀ q : Int, -(i : Int) ≤ q → q ≤ (i : Int) + 1 → q = (if bt s (i : Int) = 91 ∨ bt s (i : Int) = 123 then o + 1 else o) → spec_l1Within.j2 (k + 3) s q m (i : Int) = (if mosF s n (nxt s i) (opn (bt s (i : Int)) o) (max m (opn (bt s (i : Int)) o)) > 100 then (some false) else ((spec_l1Sizes.f s).bind fun bt => (if bt.1 ≤ 100 then (some (decide (bt.2 ≤ 3000))) else (some false)))) := by
    intro q g1 g2 hq
    rw [spec_l1Within.j2, if_pos (by omega), if_pos (by omega)]
    by_cases c1 : bt s (i : Int) = 93
    ·rw [if_pos c1, spec_l1Within.j3, if_pos rfl, HWm.out q (by omega) g2]
     exact e4 (q - 1) (by omega) (by omega) (by rw [hopn, ← hq, if_pos (show bt s (i : Int) = 93 ∨ bt s (i : Int) = 125 from .inl c1)])
    ·rw [if_neg c1, spec_l1Within.j3]
     by_cases c2 : bt s (i : Int) = 125
     ·rw [show (bt s (i : Int) == 125) = true by simp [c2], if_pos rfl, HWm.out q (by omega) g2]
      exact e4 (q - 1) (by omega) (by omega) (by rw [hopn, ← hq, if_pos (show bt s (i : Int) = 93 ∨ bt s (i : Int) = 125 from .inr c2)])
     ·rw [show (bt s (i : Int) == 125) = false by simp [c2], if_neg (by simp)]
      exact e4 q (by omega) (by omega) (by rw [hopn, ← hq, if_neg (show ¬ (bt s (i : Int) = 93 ∨ bt s (i : Int) = 125) by omega)]; omega)
   by_cases c1 : bt s (i : Int) = 91
   ·rw [if_pos c1, spec_l1Within.j1, if_pos rfl, HWp.out]
    exact e2 (o + 1) (by omega) (by omega) (by rw [if_pos (.inl c1)])
   ·rw [if_neg c1, spec_l1Within.j1]
    by_cases c2 : bt s (i : Int) = 123
    ·rw [show (bt s (i : Int) == 123) = true by simp [c2], if_pos rfl, HWp.out]
     exact e2 (o + 1) (by omega) (by omega) (by rw [if_pos (.inr c2)])
    ·rw [show (bt s (i : Int) == 123) = false by simp [c2], if_neg (by simp)]
     exact e2 o (by omega) (by omega) (by rw [if_neg (show ¬ (bt s (i : Int) = 91 ∨ bt s (i : Int) = 123) by omega)])
  ·rw [if_neg (by omega), if_neg hi]
theorem within_f (u : T) (hw : WF u) (hs : (ctx u).size ≤ 900000) (HS : ∀ i : Nat, i ≤ (ctx u).size → spec_l1String.f (ctx u) (i : Int) = some (strOfNums (strXF (ctx u) i).1, ((strXF (ctx u) i).2.1 : Int), (strXF (ctx u) i).2.2))
  (HZ : spec_l1Sizes.f (ctx u) = some ((dep u : Int), (cnt u : Int))) (k : Nat) (hk : 5 * (ctx u).size + 20 ≤ k) : spec_l1Within.f k (ctx u) = some (decide (dep u ≤ 100 ∧ cnt u ≤ 3000)) := by
 have hm := mos_ctx u hw
 unfold mosG at hm
 have hb := brk_le u
 have h0 := within_l0 (ctx u) (by omega) HS ((ctx u).size + 1 - 0) 0 k 0 0 (by omega) (by omega) (by omega) (by omega)
 rw [hm, HZ, Option.bind_some] at h0
 unfold spec_l1Within.f
 have e0 : spec_l1Within.l0 k (ctx u) 0 0 0 = spec_l1Within.l0 k (ctx u) 0 0 ((0 : Nat) : Int) := rfl
 rw [e0, h0]
 simp only
 by_cases c1 : ((brk u : Nat) : Int) > 100
 ·rw [if_pos c1]
  congr 1
  symm
  rw [decide_eq_false_iff_not]
  omega
 ·rw [if_neg c1]
  by_cases c2 : ((dep u : Nat) : Int) ≤ 100
  ·rw [if_pos c2]
   congr 1
   rw [decide_eq_decide]
   omega
  ·rw [if_neg c2]
   congr 1
   symm
   rw [decide_eq_false_iff_not]
   omega
theorem canon_f (s : ByteArray) (HV : s.size ≤ 20000 → ∀ i : Nat, i ≤ s.size → spec_l1Value.f s (i : Int) = some (gotF s i))
  (HS : (ctx (treeF s)).size ≤ 900000 → ∀ i : Nat, i ≤ (ctx (treeF s)).size → spec_l1String.f (ctx (treeF s)) (i : Int) = some (strOfNums (strXF (ctx (treeF s)) i).1, ((strXF (ctx (treeF s)) i).2.1 : Int), (strXF (ctx (treeF s)) i).2.2))
  (HZ : (ctx (treeF s)).size ≤ 900000 → spec_l1Sizes.f (ctx (treeF s)) = some ((dep (treeF s) : Int), (cnt (treeF s) : Int))) (k : Nat) (hk : 10000000 ≤ k) : spec_Canon.f k s = some (canF s) := by
 unfold spec_Canon.f
 by_cases hb : 20000 < s.size
 ·rw [if_pos (by omega), canF_no (codeF_long hb) (by decide)]
 ·rw [if_neg (by omega)]
  have hsk := skip_le s 0
  have e0 : spec_l1Skip.f k s 0 = spec_l1Skip.f k s ((0 : Nat) : Int) := rfl
  rw [e0, skip_f s (by omega) 0 k (by omega), Option.bind_some, HV (by omega) _ (by omega), Option.bind_some]
  obtain ⟨k, rfl⟩ : ∃ j, k = j + 1 := ⟨k - 1, by omega⟩
  cases hr : readT s with
  | none =>
   rw [canF_no (codeF_none hb hr) (by decide)]
   rw [readT_at] at hr
   rw [got_none hr, if_neg (by simp), spec_Canon.j0, if_pos rfl]
  | some x =>
   obtain ⟨t, q⟩ := x
   have htree : treeF s = norm t := by unfold treeF; rw [hr]
   have hcode := codeF_some hb hr
   rw [readT_at] at hr
   have hle := val_le s _ _ t q hr
   have hln := val_len s _ _ t q hr
   have hok := val_ok s _ _ t q hr
   rw [got_some hr]
   simp only
   rw [if_pos trivial, skip_f s (by omega) q (k + 1) (by omega), Option.bind_some, spec_Canon.j0]
   by_cases hend : skip s q = s.size
   ·have hne : (((skip s q : Nat) : Int) != (s.size : Int)) = false := by simp [hend]
    rw [if_pos hend] at hcode
    rw [hne, if_neg (by simp)]
    cases hbig : big bigB t with
    | true =>
     rw [hbig, if_pos rfl] at hcode
     rw [if_pos rfl, canF_no hcode (by decide)]
    | false =>
     rw [hbig, if_neg (by simp)] at hcode
     rw [if_neg (by simp)]
     cases htw : twice t with
     | true =>
      rw [htw, if_pos rfl] at hcode
      rw [if_pos rfl, canF_no hcode (by decide)]
     | false =>
      rw [htw, if_neg (by simp), ← htree] at hcode
      have htx : strOfNums (txs t) = ctx (treeF s) := by rw [htree, tx_ct t hok hbig htw]; rfl
      have hz : (ctx (treeF s)).size ≤ 900000 := by rw [← htx, str_size]; omega
      rw [if_neg (by simp), htx, within_f (treeF s) (treeF_WF s) hz (HS hz) (HZ hz) k (by omega), Option.bind_some]
      by_cases c : dep (treeF s) ≤ 100 ∧ cnt (treeF s) ≤ 3000
      ·rw [if_pos c] at hcode
       rw [if_pos (by simpa using c), canF_ok hcode]
      ·rw [if_neg c] at hcode
       rw [if_neg (by simpa using c), canF_no hcode (by decide)]
   ·have hne : (((skip s q : Nat) : Int) != (s.size : Int)) = true := by simp; omega
    rw [if_neg hend] at hcode
    rw [hne, if_pos rfl, canF_no hcode (by decide)]
end
theorem specCanon (s : ByteArray) (w : World) : Calls Tryz.prog 23 #[.string s] w fun e w' => e = .returned (.tuple #[.string (canF s).1, .int .i64 (canF s).2]) ∧ Below w.heap.size w w' := by
 letI : Inhabited Rec := ⟨mkRec (fun a i => if a = s ∧ s.size ≤ 20000 ∧ 0 ≤ i ∧ i ≤ (s.size : Int) then some (gotF s i.toNat) else none) (fun a => if a = ctx (treeF s) ∧ a.size ≤ 900000 then some ((dep (treeF s) : Int), (cnt (treeF s) : Int)) else none) (by
   intro a0 a1 r1 r2 r3 r4 r5 w h
   by_cases c : a0 = s ∧ s.size ≤ 20000 ∧ 0 ≤ a1 ∧ a1 ≤ (s.size : Int)
   ·rw [if_pos c] at h
    injection h with h
    obtain ⟨rfl, c0, c1, c2⟩ := c
    have := value_all a0 (by omega) _ a1.toNat rfl (by omega) w
    rw [h, Int.toNat_of_nonneg (by omega)] at this
    exact this
   ·rw [if_neg c] at h; cases h) (by
   intro a0 r1 r2 w h
   by_cases c : a0 = ctx (treeF s) ∧ a0.size ≤ 900000
   ·rw [if_pos c] at h
    injection h with h
    injection h with h1 h2
    subst h1 h2
    obtain ⟨rfl, c1⟩ := c
    exact sizes_all _ (treeF s) (Nat.le_refl _) (treeF_WF s) c1 w
   ·rw [if_neg c] at h; cases h)⟩
 have hf := canon_f s (fun hs i h1 => by
   show (if s = s ∧ s.size ≤ 20000 ∧ 0 ≤ (i : Int) ∧ (i : Int) ≤ (s.size : Int) then some (gotF s (i : Int).toNat) else none) = _
   rw [if_pos ⟨rfl, hs, by omega, by omega⟩, Int.toNat_natCast])
  (fun hz i h1 => by
   show (if 0 ≤ (i : Int) ∧ (i : Int) ≤ 2097152 ∧ (ctx (treeF s)).size ≤ 1048576 then _ else none) = _
   rw [if_pos ⟨by omega, by omega, by omega⟩, Int.toNat_natCast])
  (fun hz => by
   show (if ctx (treeF s) = ctx (treeF s) ∧ (ctx (treeF s)).size ≤ 900000 then _ else none) = _
   rw [if_pos ⟨rfl, hz⟩]) 10000000 (Nat.le_refl _)
 exact spec_Canon.calls _ s (canF s).1 (canF s).2 w hf
end Go.Proofs.YtndagnkhjlgjgaaGreatDoor.Pf
namespace Go.Proofs.YtndagnkhjlgjgaaGreatDoor.Ptk
open Go.RowKit YtndagnkhjlgjgaaGreatDoorW.PrintWords
set_option linter.unusedVariables false
def GM (w : World) : Prop := ∃ m, w.cell? ⟨0, 0, none⟩ = some (.int .i64 m)
theorem GM.of {w w1 : World} (h : GM w) (hb : Below w.heap.size w w1) : GM w1 := by
 obtain ⟨m, hm⟩ := h
 exact ⟨m, pw_cell_below hb hm⟩
def strings_ReplaceAll.f (a0 a1 a2 : ByteArray) : Option ByteArray :=
 if a0.size < 4294967281 ∧ 1 ≤ a1.size ∧ a0.size + Lib.countB a0 a1 * a2.size ≤ 140737488355328 then some ⟨(Lib.replaceAll a0.data.toList a1.data.toList a2.data.toList).toArray⟩ else none
theorem strings_ReplaceAll.calls (a0 a1 a2 : ByteArray) (r : ByteArray) (w : World) (hG : GM w) (h : strings_ReplaceAll.f a0 a1 a2 = some r) :
  Calls Tryz.prog 60 #[.string a0, .string a1, .string a2] w fun e w' => e = .returned (.string r) ∧ Below w.heap.size w w' := by
 unfold strings_ReplaceAll.f at h
 split at h
 ·rename_i hc
  obtain rfl := Option.some.inj h
  obtain ⟨m, hm⟩ := hG
  exact Tryz.strings_ReplaceAll a0 a1 a2 m w hc.1 hm hc.2.1 hc.2.2
 ·cases h
def szL : List ByteArray → Nat
 | [] => 0
 | t :: ts => 1 + t.size + szL ts
def fitL (l : List ByteArray) : Prop := szL l ≤ 4194304
instance (l : List ByteArray) : Decidable (fitL l) := by unfold fitL; infer_instance
def badTok (t : ByteArray) (i : Nat) : Bool := bt t i == 126 && (((i : Int) + 1 == t.size) || (bt t ((i : Int) + 1) != 48 && bt t ((i : Int) + 1) != 49))
def chk (t : ByteArray) : Nat → Nat → Bool
 | 0, _ => true
 | d + 1, i => if badTok t i = true then false else chk t d (i + 1)
def unT (t : ByteArray) : ByteArray := ⟨(Lib.replaceAll (Lib.replaceAll t.data.toList [126, 49] [47]) [126, 48] [126]).toArray⟩
def parts (a0 : ByteArray) : List ByteArray := Lib.splitB ⟨#[47]⟩ 0 (Lib.countB (a0.extract 1 a0.size) ⟨#[47]⟩) (a0.extract 1 a0.size)
def goodT (t : ByteArray) : Bool := chk t t.size 0
def impl_PtrTokens.f (a0 : ByteArray) : Option (List ByteArray × Bool) :=
 if a0.size ≤ 4194304 then
  (if a0.size = 0 then some ([], true) else if bt a0 0 = 47 then (if (parts a0).all goodT then some ((parts a0).map unT, true) else some ([], false)) else some ([], false))
 else none
theorem splitB_size (sep : ByteArray) (h1 : 1 ≤ sep.size) : ∀ (k : Nat) (s : ByteArray) (t : ByteArray), t ∈ Lib.splitB sep 0 k s → t.size ≤ s.size
 | 0, s, t, h => by
  rw [Lib.splitB_zero] at h
  simp at h
  subst h
  exact Nat.le_refl _
 | k + 1, s, t, h => by
  by_cases hm : Lib.indexB s sep = -1
  ·rw [Lib.splitB_miss sep 0 (k + 1) s hm] at h
   simp at h
   subst h
   exact Nat.le_refl _
  ·have hge := Lib.index_ge s.data.toList sep.data.toList
   have hge2 : -1 ≤ Lib.indexB s sep := hge
   obtain ⟨i, hi⟩ : ∃ i : Nat, Lib.indexB s sep = i := ⟨(Lib.indexB s sep).toNat, by omega⟩
   rw [Lib.splitB_hit sep 0 k s i hi] at h
   rcases List.mem_cons.1 h with rfl | h
   ·rw [ByteArray.size_extract]
    omega
   ·have := splitB_size sep h1 k _ t h
    rw [ByteArray.size_extract] at this
    omega
theorem replaceK_le1 (old new : List UInt8) (h1 : old.length = 2) (h2 : new.length = 1) : ∀ (k : Nat) (s : List UInt8), (Lib.replaceK old new k s).length ≤ s.length
 | 0, s => by simp [Lib.replaceK]
 | k + 1, s => by
  rw [Lib.replaceK]
  split
  ·omega
  ·rename_i hm
   have hge := Lib.index_ge s old
   have hne : Lib.index s old ≠ -1 := by simpa using hm
   obtain ⟨i, hi⟩ : ∃ i : Nat, Lib.index s old = i := ⟨(Lib.index s old).toNat, by omega⟩
   have hroom := Lib.index_room s old (by omega)
   have ih := replaceK_le1 old new h1 h2 k (s.drop (i + old.length))
   rw [hi]
   rw [hi] at hroom
   simp only [Int.toNat_natCast, List.length_append, List.length_take, h2] at ih ⊢
   rw [List.length_drop] at ih
   omega
theorem replace_fits1 (a : ByteArray) (b d : UInt8) (h : a.size ≤ 100000000) : strings_ReplaceAll.f a ⟨#[126, b]⟩ ⟨#[d]⟩ = some ⟨(Lib.replaceAll a.data.toList [126, b] [d]).toArray⟩ := by
 unfold strings_ReplaceAll.f
 have h1 : (⟨#[126, b]⟩ : ByteArray).size = 2 := rfl
 have h2 : (⟨#[d]⟩ : ByteArray).size = 1 := rfl
 have hc := Lib.countB_le ⟨#[126, b]⟩ (by rw [h1]; omega) a.size a (Nat.le_refl _)
 rw [if_pos ⟨by omega, by omega, by rw [h2]; omega⟩]
theorem replaceAll_le1 (l : List UInt8) (old new : List UInt8) (h1 : old.length = 2) (h2 : new.length = 1) : (Lib.replaceAll l old new).length ≤ l.length := by
 unfold Lib.replaceAll Lib.replace
 split
 ·omega
 ·exact replaceK_le1 old new h1 h2 _ _
theorem chk_step (t : ByteArray) (i : Nat) (h : i < t.size) (hb : badTok t i = false) : chk t (t.size - i) i = chk t (t.size - (i + 1)) (i + 1) := by
 obtain ⟨d, hd⟩ : ∃ d, t.size - i = d + 1 := ⟨t.size - i - 1, by omega⟩
 rw [hd, show t.size - (i + 1) = d by omega, chk, if_neg (by rw [hb]; simp)]
theorem chk_bad (t : ByteArray) (i : Nat) (h : i < t.size) (hb : badTok t i = true) : chk t (t.size - i) i = false := by
 obtain ⟨d, hd⟩ : ∃ d, t.size - i = d + 1 := ⟨t.size - i - 1, by omega⟩
 rw [hd, chk, if_pos hb]
theorem chk_end (t : ByteArray) (i : Nat) (h : ¬ i < t.size) : chk t (t.size - i) i = true := by
 rw [show t.size - i = 0 by omega, chk]
def cellsK (ps : List ByteArray) (k : Nat) : Array Value := (((ps.take k).map unT ++ ps.drop k).map Value.string).toArray
theorem cellsK_get (ps : List ByteArray) (k : Nat) (h : k < ps.length) : (cellsK ps k)[k]? = some (.string (ps.getD k ByteArray.empty)) := by
 unfold cellsK
 have h1 : ((ps.take k).map unT).length = k := by simp; omega
 rw [List.getElem?_toArray, List.getElem?_map, List.getElem?_append_right (by omega), h1, Nat.sub_self, List.getElem?_drop, Nat.add_zero, List.getElem?_eq_getElem h, List.getD_eq_getElem?_getD, List.getElem?_eq_getElem h]
 rfl
theorem cellsK_set (ps : List ByteArray) (k : Nat) (h : k < ps.length) : (cellsK ps k).setIfInBounds k (.string (unT (ps.getD k ByteArray.empty))) = cellsK ps (k + 1) := by
 unfold cellsK
 have e : ps.drop k = ps.getD k ByteArray.empty :: ps.drop (k + 1) := by
  rw [List.getD_eq_getElem?_getD, List.getElem?_eq_getElem h, List.drop_eq_getElem_cons h]
  rfl
 have e2 : ps.take (k + 1) = ps.take k ++ [ps.getD k ByteArray.empty] := by
  rw [List.take_succ_eq_append_getElem h, List.getD_eq_getElem?_getD, List.getElem?_eq_getElem h]
  rfl
 have h1 : ((ps.take k).map unT).length = k := by simp; omega
 apply Array.ext'
 rw [Array.toList_setIfInBounds, e, e2]
 simp only [List.map_append, List.map_cons, List.map_nil, List.append_assoc]
 rw [List.set_append_right _ _ (by simp; omega)]
 simp
 rw [show k - min k ps.length = 0 by omega]
 rfl
set_option maxRecDepth 1000000 in
set_option maxHeartbeats 2000000 in
theorem impl_PtrTokens.calls (a0 : ByteArray) (r1 : List ByteArray) (r2 : Bool) (w : World) (hG : GM w) (h : impl_PtrTokens.f a0 = some (r1, r2)) :
  Calls Tryz.prog 31 #[.string a0] w fun e w' => ∃ v0_ : Value, e = .returned (.tuple #[v0_, .bool r2]) ∧ Kd.R Kd.string 9 w' w.heap.size (fun _ => True) v0_ r1 ∧ Below w.heap.size w w' := by
 have HGG := Lib.hid hG
 clear hG
 unfold impl_PtrTokens.f at h
 split at h
 ·rename_i hfit
  split at h
  ·rename_i h0
   simp only [Option.some.injEq, Prod.mk.injEq] at h
   obtain ⟨rfl, rfl⟩ := h
   have he : a0.toList = [] := by rw [Lib.toList_data]; exact List.eq_nil_of_length_eq_zero (by rw [Array.length_toList]; exact h0)
   clear h0 hfit
   go_enter Tryz.func31, Tryz.ntmps31
   go_wp2_with fail
   go_ret2
   exact ⟨_, rfl, Kd.R_nil _ _ _ _ _, Below.refl _ _⟩
  ·rename_i h0
   have he : a0.toList.isEmpty = false := by
    rw [Lib.toList_data]
    cases hl : a0.data.toList with
    | nil => exact absurd (by have := congrArg List.length hl; rw [Array.length_toList] at this; exact this) h0
    | cons x xs => rfl
   have he2 : ¬ a0.toList = [] := by intro hh; rw [hh] at he; cases he
   have hsz : 0 < a0.size := by omega
   have hx : ∀ hh : 0 < a0.size, ((a0[0]'hh).toNat : Int) = bt a0 0 := fun hh => bt_at a0 0 hh
   split at h
   ·rename_i h47
    have hb : (bt a0 0 != 47) = false := by simpa using h47
    have hps : ∀ x ∈ parts a0, x.size ≤ 4194304 := by
     intro x hx
     have h1 := splitB_size ⟨#[47]⟩ (by show 1 ≤ 1; exact Nat.le_refl _) _ _ x hx
     have h2 : (a0.extract 1 a0.size).size ≤ a0.size := by
      rw [ByteArray.size_extract]
      omega
     omega
    have hlen : (parts a0).length ≤ 4194305 := by
     have h1 := Lib.splitB_all ⟨#[47]⟩ (by show 1 ≤ 1; exact Nat.le_refl _) 0 _ (a0.extract 1 a0.size) rfl
     have h2 := Lib.countB_le ⟨#[47]⟩ (by show 1 ≤ 1; exact Nat.le_refl _) (a0.extract 1 a0.size).size (a0.extract 1 a0.size) (Nat.le_refl _)
     have h3 : (a0.extract 1 a0.size).size ≤ a0.size := by
      rw [ByteArray.size_extract]
      omega
     unfold parts
     omega
    have hspl : (Lib.splitB ⟨#[47]⟩ 0 (Lib.countB (a0.extract 1 a0.size) ⟨#[47]⟩) (a0.extract 1 a0.size)) = parts a0 := rfl
    have hcnt : Lib.countB (a0.extract 1 a0.size) ⟨#[47]⟩ + 1 = (parts a0).length := (Lib.splitB_all ⟨#[47]⟩ (by show 1 ≤ 1; exact Nat.le_refl _) 0 _ (a0.extract 1 a0.size) rfl).symm
    generalize hpp : parts a0 = ps at *
    have HS := Lib.hid hspl
    have HC := Lib.hid hcnt
    have HP := Lib.hid hps
    have HH := Lib.hid h
    clear hspl hcnt hps h hpp h47 h0
    obtain ⟨m, hm⟩ := HGG.out
    have HM := Lib.hid hm
    clear hm
    go_enter Tryz.func31, Tryz.ntmps31
    go_wp2_with fail
    refine (Tryz.strings_Split (a0.extract 1 a0.size) ⟨#[47]⟩ m w (by rw [ByteArray.size_extract]; omega) HM.out (by show 1 ≤ 1; exact Nat.le_refl _)).mono ?_
    rintro e w1 ⟨rfl, rfl⟩
    rw [HS.out, HC.out]
    go_wp2_with fail
    have hn : ps.length ≤ 4194305 := hlen
    clear hlen hb he he2 hx hsz
    go_loopw [18] (fun s wr => ∃ k : Nat, k ≤ ps.length ∧ s = .int .i64 k ∧ Hid (wr.heap[w.heap.size]? = some (.cells (cellsK ps k) 9 (0, 0))) ∧ Hid (Below w.heap.size w wr) ∧ Hid ((ps.take k).all goodT = true)) (fun s _ => ps.length - (intOf s).toNat)
    case atStart => exact ⟨0, Nat.zero_le _, rfl, Lib.hid (by simpa [cellsK] using heap_alloc_new w _), Lib.hid (below_alloc (Below.refl _ _) _), Lib.hid rfl⟩
    case round =>
     obtain ⟨k, hk, rfl, HI, HB, HA⟩ := hrel
     by_cases hlt : k < ps.length
     ·have hcell : wr.cell? ⟨w.heap.size, k, none⟩ = some (.string (ps.getD k ByteArray.empty)) := by
       rw [Lib.cell_of_heap HI.out k]
       exact cellsK_get ps k hlt
      have hmem : ps.getD k ByteArray.empty ∈ ps := by
       rw [List.getD_eq_getElem?_getD, List.getElem?_eq_getElem hlt]
       exact List.getElem_mem hlt
      have hts := HP.out _ hmem
      have HT : Hid (∃ t, ps.getD k ByteArray.empty = t) := ⟨_, rfl⟩
      clear hmem
      generalize hq : ps.getD k ByteArray.empty = t at *
      have HQ := Lib.hid hq
      clear hq HT
      go_wp2_with fail
      go_loop [25] (fun j => ∃ i : Nat, i ≤ t.size ∧ j = .int .i64 i ∧ Hid (chk t (t.size - i) i = goodT t)) (fun j => t.size - (intOf j).toNat)
      case atStart => exact ⟨0, Nat.zero_le _, rfl, Lib.hid rfl⟩
      case round =>
       obtain ⟨i, hi, rfl, HCH⟩ := hrel
       by_cases hil : i < t.size
       ·have hxb : ∀ hh : i < t.size, ((t[i]'hh).toNat : Int) = bt t (i : Int) := fun hh => bt_at t (i : Int) (by simpa using hh)
        have hsn : t.size ≤ 4194304 := hts
        have ret : ∀ e W', (e = Ending.returned (.tuple #[.slice none 0 0, .bool false]) ∧ Below w.heap.size w W') → goodT t = false → ∃ v0_ : Value, e = .returned (.tuple #[v0_, .bool r2]) ∧ Kd.R Kd.string 9 W' w.heap.size (fun _ => True) v0_ r1 ∧ Below w.heap.size w W' := by
         rintro e W' ⟨rfl, hB⟩ hg
         have hm : ps.getD k ByteArray.empty ∈ ps := by
          rw [List.getD_eq_getElem?_getD, List.getElem?_eq_getElem hlt]
          exact List.getElem_mem hlt
         rw [HQ.out] at hm
         have hall : ¬ (ps.all goodT = true) := by
          intro ha
          have := List.all_eq_true.1 ha t hm
          rw [hg] at this
          cases this
         have h2 := HH.out
         rw [if_neg hall] at h2
         simp only [Option.some.injEq, Prod.mk.injEq] at h2
         obtain ⟨rfl, rfl⟩ := h2
         exact ⟨_, rfl, Kd.R_nil _ _ _ _ _, hB⟩
        have RET := Lib.hid ret
        clear ret
        by_cases b1 : bt t (i : Int) = 126
        ·have c1 : (bt t (i : Int) == 126) = true := by simpa using b1
         by_cases b2 : i + 1 = t.size
         ·have c2 : ((i : Int) + 1 == (t.size : Int)) = true := by simp; omega
          have hbad : Hid (badTok t i = true) := by unfold badTok; rw [c1, c2]; rfl
          clear b1 b2
          go_wp2_with fail
          go_ret2
          exact RET.out _ _ ⟨rfl, HB.out⟩ (by rw [← HCH.out, chk_bad t i hil hbad.out])
         ·have c2 : ((i : Int) + 1 == (t.size : Int)) = false := by simp; omega
          have hil1 : i + 1 < t.size := by omega
          have hxb1 : ∀ hh : i + 1 < t.size, ((t[i + 1]'hh).toNat : Int) = bt t ((i : Int) + 1) := fun hh => bt_at t ((i : Int) + 1) (by simpa using hh)
          by_cases b3 : bt t ((i : Int) + 1) = 48
          ·have c3 : (bt t ((i : Int) + 1) != 48) = false := by simpa using b3
           have hbad : Hid (badTok t i = false) := by unfold badTok; rw [c1, c2, c3]; rfl
           clear b1 b2 b3
           go_wp2_with fail
           go_round
           case rel => exact ⟨i + 1, by omega, by go_num, Lib.hid (by rw [← HCH.out, chk_step t i hil hbad.out])⟩
           case measure => simp [intOf]; omega
          ·have c3 : (bt t ((i : Int) + 1) != 48) = true := by simpa using b3
           by_cases b4 : bt t ((i : Int) + 1) = 49
           ·have c4 : (bt t ((i : Int) + 1) != 49) = false := by simpa using b4
            have hbad : Hid (badTok t i = false) := by unfold badTok; rw [c1, c2, c3, c4]; rfl
            clear b1 b2 b3 b4
            go_wp2_with fail
            go_round
            case rel => exact ⟨i + 1, by omega, by go_num, Lib.hid (by rw [← HCH.out, chk_step t i hil hbad.out])⟩
            case measure => simp [intOf]; omega
           ·have c4 : (bt t ((i : Int) + 1) != 49) = true := by simpa using b4
            have hbad : Hid (badTok t i = true) := by unfold badTok; rw [c1, c2, c3, c4]; rfl
            clear b1 b2 b3 b4
            go_wp2_with fail
            go_ret2
            exact RET.out _ _ ⟨rfl, HB.out⟩ (by rw [← HCH.out, chk_bad t i hil hbad.out])
        ·have c1 : (bt t (i : Int) == 126) = false := by simpa using b1
         have hbad : Hid (badTok t i = false) := by unfold badTok; rw [c1]; rfl
         clear b1
         go_wp2_with fail
         go_round
         case rel => exact ⟨i + 1, by omega, by go_num, Lib.hid (by rw [← HCH.out, chk_step t i hil hbad.out])⟩
         case measure => simp [intOf]; omega
       ·have HGT : Hid (goodT t = true) := by
         rw [← HCH.out]
         exact chk_end t i hil
        clear HCH
        have f1 := replace_fits1 t 49 47 (by omega)
        have hl1 := replaceAll_le1 t.data.toList [126, 49] [47] rfl rfl
        have h3 : t.data.toList.length = t.size := by rw [Array.length_toList]; rfl
        have HU : Hid (unT t = ⟨(Lib.replaceAll (Lib.replaceAll t.data.toList [126, 49] [47]) [126, 48] [126]).toArray⟩) := rfl
        generalize hq : Lib.replaceAll t.data.toList [126, 49] [47] = q at *
        have HQ1 := Lib.hid hq
        have HF1 := Lib.hid f1
        clear hq f1
        have f2 := replace_fits1 ⟨q.toArray⟩ 48 126 (by show q.toArray.size ≤ _; simp; omega)
        generalize hq2 : Lib.replaceAll q [126, 48] [126] = q2 at *
        have f3 : strings_ReplaceAll.f ⟨q.toArray⟩ ⟨#[126, 48]⟩ ⟨#[126]⟩ = some ⟨q2.toArray⟩ := f2
        have HF2 := Lib.hid f3
        clear hq2 f2 f3 hl1 h3
        go_wp2_with fail
        refine (strings_ReplaceAll.calls _ _ _ _ wr (HGG.out.of HB.out) HF1.out).mono ?_
        rintro e w2 ⟨rfl, hw2⟩
        have HI2 : Hid (w2.heap[w.heap.size]? = some (.cells (cellsK ps k) 9 (0, 0))) := Lib.hid ((hw2.block _ (Array.getElem?_eq_some_iff.1 HI.out).1).trans HI.out)
        have HB2 := Lib.hid (below_then HB.out HB.out.size hw2)
        clear hw2
        go_wp2_with fail
        refine (strings_ReplaceAll.calls _ _ _ _ w2 (HGG.out.of HB2.out) HF2.out).mono ?_
        rintro e w3 ⟨rfl, hw3⟩
        have HI3 : Hid (w3.heap[w.heap.size]? = some (.cells (cellsK ps k) 9 (0, 0))) := Lib.hid ((hw3.block _ (Array.getElem?_eq_some_iff.1 HI2.out).1).trans HI2.out)
        have HB3 := Lib.hid (below_then HB2.out HB2.out.size hw3)
        clear hw3 HI2 HB2
        have hcell3 : w3.cell? ⟨w.heap.size, k, none⟩ = some (.string t) := by
         rw [Lib.cell_of_heap HI3.out k, cellsK_get ps k hlt, HQ.out]
        have hfro3 : w3.frozen? ⟨w.heap.size, k, none⟩ = false := Lib.frozen_of_heap HI3.out k
        go_wp2_with fail
        go_roundw
        case rel =>
         refine ⟨k + 1, by omega, by go_num, ?_, ?_, ?_⟩
         ·refine Lib.hid ?_
          rw [← cellsK_set ps k hlt, HQ.out, HU.out]
          have hh := HI3.out
          simp only [World.setCell, Array.getElem?_modify]
          rw [if_pos trivial, hh]
          rfl
         ·exact Lib.hid (HB3.out.setCell (p := ⟨w.heap.size, k, none⟩) (Nat.le_refl _) _)
         ·refine Lib.hid ?_
          rw [List.take_succ_eq_append_getElem hlt, List.all_append, HA.out]
          have hq := HQ.out
          rw [List.getD_eq_getElem?_getD, List.getElem?_eq_getElem hlt] at hq
          simp at hq
          simp [hq, HGT.out]
        case measure => simp [intOf]; omega
     ·have : k = ps.length := by omega
      subst this
      go_wp2_with fail
      have h2 := HH.out
      have hall := HA.out
      rw [List.take_of_length_le (Nat.le_refl _)] at hall
      rw [if_pos hall] at h2
      simp only [Option.some.injEq, Prod.mk.injEq] at h2
      obtain ⟨rfl, rfl⟩ := h2
      go_ret2
      refine ⟨_, rfl, Kd.R_of_own (enc := Value.string) (h1 := fun _ => rfl) ?_ (fun _ _ => trivial), HB.out⟩
      have hcs : cellsK ps ps.length = ((ps.map unT).map Value.string).toArray := by
       unfold cellsK
       rw [List.take_of_length_le (Nat.le_refl _), List.drop_of_length_le (Nat.le_refl _), List.append_nil]
      have hi := HI.out
      rw [hcs] at hi
      refine ⟨by rw [encs, List.length_map, Nat.mul_one], .inr ⟨w.heap.size, _, _, by rw [List.length_map]; rfl, Nat.le_refl _, hi, by simp, by unfold maxLen; omega, by simp, ?_⟩⟩
      rw [List.take_of_length_le (by simp)]
      rfl
   ·rename_i h47
    simp only [Option.some.injEq, Prod.mk.injEq] at h
    obtain ⟨rfl, rfl⟩ := h
    have hb : (bt a0 0 != 47) = true := by simpa using h47
    clear h0 hfit h47
    go_enter Tryz.func31, Tryz.ntmps31
    go_wp2_with fail
    go_ret2
    exact ⟨_, rfl, Kd.R_nil _ _ _ _ _, Below.refl _ _⟩
 ·cases h
end Go.Proofs.YtndagnkhjlgjgaaGreatDoor.Ptk
