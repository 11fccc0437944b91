/- The reference's l1Within and Canon: what they answer, and Canon's contract. -/
import Derived.Test.YtbonodglnilkfaaGreatDoorSzW
import Derived.Test.YtbonodglnilkfaaGreatDoorSize
import Derived.Test.YtbonodglnilkfaaGreatDoorValW
import Derived.Test.YtbonodglnilkfaaGreatDoorWriD
namespace Go.Proofs.YtbonodglnilkfaaGreatDoor.Pf
open Go Go.RowKit Go.Proofs.YtbonodglnilkfaaGreatDoorW.PrintWords Go.Proofs.YtbonodglnilkfaaGreatDoor.Str Go.Proofs.YtbonodglnilkfaaGreatDoor.Tree Go.Proofs.YtbonodglnilkfaaGreatDoor.Read Go.Proofs.YtbonodglnilkfaaGreatDoor.PJt Go.Proofs.YtbonodglnilkfaaGreatDoor.Own
set_option linter.unusedVariables false
set_option linter.unusedSimpArgs false
def codeF (s : ByteArray) : Int := if 20000 < s.size then 1 else match readT s with
 | none => 2
 | some (t, q) => if skip s q = s.size then (if big bigB t = true then 3 else if twice t = true then 4 else if dep (norm t) ≤ 100 ∧ cnt (norm t) ≤ 3000 then 0 else 5) else 2
def treeF (s : ByteArray) : T := match readT s with
 | none => .nul
 | some (t, _) => norm t
def canF (s : ByteArray) : ByteArray × Int := (if codeF s = 0 then ctx (treeF s) else ⟨#[]⟩, codeF s)
theorem canF_no {s : ByteArray} {c : Int} (h : codeF s = c) (h0 : c ≠ 0) : canF s = (⟨#[]⟩, c) := by
 unfold canF
 rw [h, if_neg h0]
theorem canF_ok {s : ByteArray} (h : codeF s = 0) : canF s = (ctx (treeF s), 0) := by
 unfold canF
 rw [h, if_pos rfl]
theorem codeF_some {s : ByteArray} {t : T} {q : Nat} (hb : ¬ 20000 < s.size) (hr : readT s = some (t, q)) : codeF s = if skip s q = s.size then (if big bigB t = true then 3 else if twice t = true then 4 else if dep (norm t) ≤ 100 ∧ cnt (norm t) ≤ 3000 then 0 else 5) else 2 := by
 unfold codeF
 rw [if_neg hb, hr]
theorem codeF_none {s : ByteArray} (hb : ¬ 20000 < s.size) (hr : readT s = none) : codeF s = 2 := by
 unfold codeF
 rw [if_neg hb, hr]
theorem codeF_long {s : ByteArray} (hb : 20000 < s.size) : codeF s = 1 := by
 unfold codeF
 rw [if_pos hb]
theorem readT_at (s : ByteArray) : readT s = val s (s.size + 1) (skip s 0) := rfl
theorem treeF_WF (s : ByteArray) : WF (treeF s) := by
 unfold treeF
 cases h : readT s with
 | none => simp only; rw [WF] <;> simp
 | some x =>
  obtain ⟨t, q⟩ := x
  exact norm_WF t (val_ok s _ _ t q h)
section
variable [Inhabited Rec]
theorem within_l0 (s : ByteArray) (hs : s.size ≤ 1000000) (HS : ∀ i : Nat, i ≤ s.size → spec_l1String.f s (i : Int) = some (strOfNums (strXF s i).1, ((strXF s i).2.1 : Int), (strXF s i).2.2)) :
  ∀ (n i k : Nat) (o m : Int), s.size < i + n → -(i : Int) ≤ o → o ≤ (i : Int) → 5 * n + 5 ≤ k → spec_l1Within.l0 k s o m (i : Int) = (if mosF s n i o m > 100 then (some false) else ((spec_l1Sizes.f s).bind fun bt => (if bt.1 ≤ 100 then (some (decide (bt.2 ≤ 3000))) else (some false)))) := by
 intro n
 induction n with
 | zero =>
  intro i k o m h1 h2 h3 hk
  obtain ⟨k, rfl⟩ : ∃ j, k = j + 1 := ⟨k - 1, by omega⟩
  rw [spec_l1Within.l0, if_neg (by omega)]
  rfl
 | succ n ih =>
  intro i k o m h1 h2 h3 hk
  obtain ⟨k, rfl⟩ : ∃ j, k = j + 5 := ⟨k - 5, by omega⟩
  rw [spec_l1Within.l0, mosF]
  by_cases hi : i < s.size
  ·rw [if_pos (by omega), if_pos (by omega), if_pos hi]
   have hng := nxt_gt s i hi
   have hopn : opn (bt s (i : Int)) o = (if bt s (i : Int) = 91 ∨ bt s (i : Int) = 123 then o + 1 else o) - (if bt s (i : Int) = 93 ∨ bt s (i : Int) = 125 then 1 else 0) := rfl
   have HWp := Lib.hid (show wrap64 (o + 1) = o + 1 from w64 (by omega) (by omega))
   have HWm := Lib.hid (show ∀ q : Int, -(i : Int) - 1 ≤ q → q ≤ (i : Int) + 1 → wrap64 (q - 1) = q - 1 from fun q g1 g2 => w64 (by omega) (by omega))
   have HIH := Lib.hid ih
   have e4 : ∀ o' : Int, -(i : Int) - 1 ≤ o' → o' ≤ (i : Int) + 1 → o' = opn (bt s (i : Int)) o → spec_l1Within.j4 (k + 1) s o' m (i : Int) = (if mosF s n (nxt s i) (opn (bt s (i : Int)) o) (max m (opn (bt s (i : Int)) o)) > 100 then (some false) else ((spec_l1Sizes.f s).bind fun bt => (if bt.1 ≤ 100 then (some (decide (bt.2 ≤ 3000))) else (some false)))) := by
    intro o' g1 g2 ho
    rw [← ho]
    have hstep : ∀ m' : Int, (if (bt s (i : Int)) = 34 then ((spec_l1String.f s (i : Int)).bind fun bt244 => (spec_l1Within.l0 k s o' m' bt244.2.1)) else (spec_l1Within.l0 k s o' m' (wrap64 ((i : Int) + 1)))) = (if mosF s n (nxt s i) o' m' > 100 then (some false) else ((spec_l1Sizes.f s).bind fun bt => (if bt.1 ≤ 100 then (some (decide (bt.2 ≤ 3000))) else (some false)))) := by
     intro m'
     have hg := HIH.out (nxt s i) k o' m' (by omega) (by omega) (by omega) (by omega)
     by_cases c : bt s (i : Int) = 34
     ·have hn : ((strXF s i).2.1 : Int) = ((nxt s i : Nat) : Int) := by unfold nxt; rw [if_pos c]
      have hS := HS i (by omega)
      rw [if_pos c, hS, Option.bind_some]
      simp only
      rw [hn, hg]
     ·have hn : wrap64 ((i : Int) + 1) = ((nxt s i : Nat) : Int) := by
       unfold nxt
       rw [if_neg c, w64 (by omega) (by omega)]
       omega
      rw [if_neg c, hn, hg]
    rw [spec_l1Within.j4]
    by_cases hgt : o' > m
    ·rw [if_pos hgt, if_pos (by omega), if_pos (by omega), hstep o', show max m o' = o' by omega]
    ·rw [if_neg hgt, if_pos (by omega), if_pos (by omega), hstep m, show max m o' = m by omega]
   have e2 : ∀ q : Int, -(i : Int) ≤ q → q ≤ (i : Int) + 1 → q = (if bt s (i : Int) = 91 ∨ bt s (i : Int) = 123 then o + 1 else o) → spec_l1Within.j2 (k + 3) s q m (i : Int) = (if mosF s n (nxt s i) (opn (bt s (i : Int)) o) (max m (opn (bt s (i : Int)) o)) > 100 then (some false) else ((spec_l1Sizes.f s).bind fun bt => (if bt.1 ≤ 100 then (some (decide (bt.2 ≤ 3000))) else (some false)))) := by
    intro q g1 g2 hq
    rw [spec_l1Within.j2, if_pos (by omega), if_pos (by omega)]
    by_cases c1 : bt s (i : Int) = 93
    ·rw [if_pos c1, spec_l1Within.j3, if_pos rfl, HWm.out q (by omega) g2]
     exact e4 (q - 1) (by omega) (by omega) (by rw [hopn, ← hq, if_pos (show bt s (i : Int) = 93 ∨ bt s (i : Int) = 125 from .inl c1)])
    ·rw [if_neg c1, spec_l1Within.j3]
     by_cases c2 : bt s (i : Int) = 125
     ·rw [show (bt s (i : Int) == 125) = true by simp [c2], if_pos rfl, HWm.out q (by omega) g2]
      exact e4 (q - 1) (by omega) (by omega) (by rw [hopn, ← hq, if_pos (show bt s (i : Int) = 93 ∨ bt s (i : Int) = 125 from .inr c2)])
     ·rw [show (bt s (i : Int) == 125) = false by simp [c2], if_neg (by simp)]
      exact e4 q (by omega) (by omega) (by rw [hopn, ← hq, if_neg (show ¬ (bt s (i : Int) = 93 ∨ bt s (i : Int) = 125) by omega)]; omega)
   by_cases c1 : bt s (i : Int) = 91
   ·rw [if_pos c1, spec_l1Within.j1, if_pos rfl, HWp.out]
    exact e2 (o + 1) (by omega) (by omega) (by rw [if_pos (.inl c1)])
   ·rw [if_neg c1, spec_l1Within.j1]
    by_cases c2 : bt s (i : Int) = 123
    ·rw [show (bt s (i : Int) == 123) = true by simp [c2], if_pos rfl, HWp.out]
     exact e2 (o + 1) (by omega) (by omega) (by rw [if_pos (.inr c2)])
    ·rw [show (bt s (i : Int) == 123) = false by simp [c2], if_neg (by simp)]
     exact e2 o (by omega) (by omega) (by rw [if_neg (show ¬ (bt s (i : Int) = 91 ∨ bt s (i : Int) = 123) by omega)])
  ·rw [if_neg (by omega), if_neg hi]
theorem within_f (u : T) (hw : WF u) (hs : (ctx u).size ≤ 900000) (HS : ∀ i : Nat, i ≤ (ctx u).size → spec_l1String.f (ctx u) (i : Int) = some (strOfNums (strXF (ctx u) i).1, ((strXF (ctx u) i).2.1 : Int), (strXF (ctx u) i).2.2))
  (HZ : spec_l1Sizes.f (ctx u) = some ((dep u : Int), (cnt u : Int))) (k : Nat) (hk : 5 * (ctx u).size + 20 ≤ k) : spec_l1Within.f k (ctx u) = some (decide (dep u ≤ 100 ∧ cnt u ≤ 3000)) := by
 have hm := mos_ctx u hw
 unfold mosG at hm
 have hb := brk_le u
 have h0 := within_l0 (ctx u) (by omega) HS ((ctx u).size + 1 - 0) 0 k 0 0 (by omega) (by omega) (by omega) (by omega)
 rw [hm, HZ, Option.bind_some] at h0
 unfold spec_l1Within.f
 have e0 : spec_l1Within.l0 k (ctx u) 0 0 0 = spec_l1Within.l0 k (ctx u) 0 0 ((0 : Nat) : Int) := rfl
 rw [e0, h0]
 simp only
 by_cases c1 : ((brk u : Nat) : Int) > 100
 ·rw [if_pos c1]
  congr 1
  symm
  rw [decide_eq_false_iff_not]
  omega
 ·rw [if_neg c1]
  by_cases c2 : ((dep u : Nat) : Int) ≤ 100
  ·rw [if_pos c2]
   congr 1
   rw [decide_eq_decide]
   omega
  ·rw [if_neg c2]
   congr 1
   symm
   rw [decide_eq_false_iff_not]
   omega
theorem canon_f (s : ByteArray) (HV : s.size ≤ 20000 → ∀ i : Nat, i ≤ s.size → spec_l1Value.f s (i : Int) = some (gotF s i))
  (HS : (ctx (treeF s)).size ≤ 900000 → ∀ i : Nat, i ≤ (ctx (treeF s)).size → spec_l1String.f (ctx (treeF s)) (i : Int) = some (strOfNums (strXF (ctx (treeF s)) i).1, ((strXF (ctx (treeF s)) i).2.1 : Int), (strXF (ctx (treeF s)) i).2.2))
  (HZ : (ctx (treeF s)).size ≤ 900000 → spec_l1Sizes.f (ctx (treeF s)) = some ((dep (treeF s) : Int), (cnt (treeF s) : Int))) (k : Nat) (hk : 10000000 ≤ k) : spec_Canon.f k s = some (canF s) := by
 unfold spec_Canon.f
 by_cases hb : 20000 < s.size
 ·rw [if_pos (by omega), canF_no (codeF_long hb) (by decide)]
 ·rw [if_neg (by omega)]
  have hsk := skip_le s 0
  have e0 : spec_l1Skip.f k s 0 = spec_l1Skip.f k s ((0 : Nat) : Int) := rfl
  rw [e0, skip_f s (by omega) 0 k (by omega), Option.bind_some, HV (by omega) _ (by omega), Option.bind_some]
  obtain ⟨k, rfl⟩ : ∃ j, k = j + 1 := ⟨k - 1, by omega⟩
  cases hr : readT s with
  | none =>
   rw [canF_no (codeF_none hb hr) (by decide)]
   rw [readT_at] at hr
   rw [got_none hr, if_neg (by simp), spec_Canon.j0, if_pos rfl]
  | some x =>
   obtain ⟨t, q⟩ := x
   have htree : treeF s = norm t := by unfold treeF; rw [hr]
   have hcode := codeF_some hb hr
   rw [readT_at] at hr
   have hle := val_le s _ _ t q hr
   have hln := val_len s _ _ t q hr
   have hok := val_ok s _ _ t q hr
   rw [got_some hr]
   simp only
   rw [if_pos trivial, skip_f s (by omega) q (k + 1) (by omega), Option.bind_some, spec_Canon.j0]
   by_cases hend : skip s q = s.size
   ·have hne : (((skip s q : Nat) : Int) != (s.size : Int)) = false := by simp [hend]
    rw [if_pos hend] at hcode
    rw [hne, if_neg (by simp)]
    cases hbig : big bigB t with
    | true =>
     rw [hbig, if_pos rfl] at hcode
     rw [if_pos rfl, canF_no hcode (by decide)]
    | false =>
     rw [hbig, if_neg (by simp)] at hcode
     rw [if_neg (by simp)]
     cases htw : twice t with
     | true =>
      rw [htw, if_pos rfl] at hcode
      rw [if_pos rfl, canF_no hcode (by decide)]
     | false =>
      rw [htw, if_neg (by simp), ← htree] at hcode
      have htx : strOfNums (txs t) = ctx (treeF s) := by rw [htree, tx_ct t hok hbig htw]; rfl
      have hz : (ctx (treeF s)).size ≤ 900000 := by rw [← htx, str_size]; omega
      rw [if_neg (by simp), htx, within_f (treeF s) (treeF_WF s) hz (HS hz) (HZ hz) k (by omega), Option.bind_some]
      by_cases c : dep (treeF s) ≤ 100 ∧ cnt (treeF s) ≤ 3000
      ·rw [if_pos c] at hcode
       rw [if_pos (by simpa using c), canF_ok hcode]
      ·rw [if_neg c] at hcode
       rw [if_neg (by simpa using c), canF_no hcode (by decide)]
   ·have hne : (((skip s q : Nat) : Int) != (s.size : Int)) = true := by simp; omega
    rw [if_neg hend] at hcode
    rw [hne, if_pos rfl, canF_no hcode (by decide)]
end
theorem specCanon (s : ByteArray) (w : World) : Calls Tryz.prog 6 #[.string s] w fun e w' => e = .returned (.tuple #[.string (canF s).1, .int .i64 (canF s).2]) ∧ Below w.heap.size w w' := by
 letI : Inhabited Rec := ⟨mkRec (fun a i => if a = s ∧ s.size ≤ 20000 ∧ 0 ≤ i ∧ i ≤ (s.size : Int) then some (gotF s i.toNat) else none) (fun a => if a = ctx (treeF s) ∧ a.size ≤ 900000 then some ((dep (treeF s) : Int), (cnt (treeF s) : Int)) else none) (by
   intro a0 a1 r1 r2 r3 r4 r5 w h
   by_cases c : a0 = s ∧ s.size ≤ 20000 ∧ 0 ≤ a1 ∧ a1 ≤ (s.size : Int)
   ·rw [if_pos c] at h
    injection h with h
    obtain ⟨rfl, c0, c1, c2⟩ := c
    have := value_all a0 (by omega) _ a1.toNat rfl (by omega) w
    rw [h, Int.toNat_of_nonneg (by omega)] at this
    exact this
   ·rw [if_neg c] at h; cases h) (by
   intro a0 r1 r2 w h
   by_cases c : a0 = ctx (treeF s) ∧ a0.size ≤ 900000
   ·rw [if_pos c] at h
    injection h with h
    injection h with h1 h2
    subst h1 h2
    obtain ⟨rfl, c1⟩ := c
    exact sizes_all _ (treeF s) (Nat.le_refl _) (treeF_WF s) c1 w
   ·rw [if_neg c] at h; cases h)⟩
 have hf := canon_f s (fun hs i h1 => by
   show (if s = s ∧ s.size ≤ 20000 ∧ 0 ≤ (i : Int) ∧ (i : Int) ≤ (s.size : Int) then some (gotF s (i : Int).toNat) else none) = _
   rw [if_pos ⟨rfl, hs, by omega, by omega⟩, Int.toNat_natCast])
  (fun hz i h1 => by
   show (if 0 ≤ (i : Int) ∧ (i : Int) ≤ 2097152 ∧ (ctx (treeF s)).size ≤ 1048576 then _ else none) = _
   rw [if_pos ⟨by omega, by omega, by omega⟩, Int.toNat_natCast])
  (fun hz => by
   show (if ctx (treeF s) = ctx (treeF s) ∧ (ctx (treeF s)).size ≤ 900000 then _ else none) = _
   rw [if_pos ⟨rfl, hz⟩]) 10000000 (Nat.le_refl _)
 exact spec_Canon.calls _ s (canF s).1 (canF s).2 w hf
end Go.Proofs.YtbonodglnilkfaaGreatDoor.Pf
namespace Go.Proofs.YtbonodglnilkfaaGreatDoor.Impl
open Go Go.Proofs Go.RowKit Go.Proofs.YtbonodglnilkfaaGreatDoorW.PrintWords Go.Proofs.YtbonodglnilkfaaGreatDoor.Str Go.Proofs.YtbonodglnilkfaaGreatDoor.Read Go.Proofs.YtbonodglnilkfaaGreatDoor.Val Go.Proofs.YtbonodglnilkfaaGreatDoor.Tree Go.Proofs.YtbonodglnilkfaaGreatDoor.Coll Go.Proofs.YtbonodglnilkfaaGreatDoor.Pf Go.Proofs.YtbonodglnilkfaaGreatDoor.Tchs
set_option linter.unusedVariables false
set_option linter.unusedSimpArgs false
def Good (s : ByteArray) (w : World) (e : Ending) (w' : World) : Prop :=
 (codeF s = 0 → ∃ v, e = .returned (.tuple #[v, .int .i64 0]) ∧ V w' (fun k => w.heap.size ≤ k) (treeF s) v) ∧ (codeF s ≠ 0 → e = .returned (.tuple #[.nilIface, .int .i64 (codeF s)])) ∧ Below w.heap.size w w'
theorem Good.no {s : ByteArray} {w w' : World} {c : Int} (h : codeF s = c) (h0 : c ≠ 0) (hb : Below w.heap.size w w') : Good s w (.returned (.tuple #[.nilIface, .int .i64 c])) w' :=
 ⟨fun hh => absurd (h.symm.trans hh) h0, fun _ => by rw [h], hb⟩
set_option maxRecDepth 100000 in
set_option maxHeartbeats 8000000 in
theorem good (s : ByteArray) (w : World) (hT : Lib.Utf8Tabs 0 1 w) (hE : EV w) (hg : 5 < w.heap.size ∧ 1 < w.heap.size) :
  Calls Tryz.prog 20 #[.string s] w fun e w' => Good s w e w' := by
 go_enter Tryz.func20, Tryz.ntmps20
 by_cases hb : 20000 < s.size
 ·have d1 : decide ((20000 : Int) < (s.size : Int)) = true := decide_eq_true (by omega)
  have d1n : decide (20000 < s.size) = true := decide_eq_true hb
  have HC := Lib.hid (codeF_long hb)
  clear hb
  go_wp2_with fail
  go_ret2
  exact Good.no HC.out (by decide) (Below.refl _ _)
 ·have d1 : decide ((20000 : Int) < (s.size : Int)) = false := decide_eq_false (by omega)
  have d1n : decide (20000 < s.size) = false := decide_eq_false hb
  have HB := Lib.hid hb
  clear hb
  go_wp2_with fail
  refine (read s w (by have := HB.out; omega) hT hE hg).mono ?_
  rintro e w1 ⟨hok, hno, hb1⟩
  have HB1 := Lib.hid hb1
  cases hr : readT s with
  | none =>
   obtain ⟨g, rfl⟩ := hno hr
   have HC := Lib.hid (codeF_none HB.out hr)
   clear hok hno hb1 hT hE hr
   go_wp2_with fail
   go_ret2
   exact Good.no HC.out (by decide) HB1.out
  | some x =>
   obtain ⟨t, q⟩ := x
   obtain ⟨g, v, rfl, hv, hrd, hgl⟩ := hok t q hr
   obtain ⟨T', x', rfl⟩ := V_iface hv
   have HV := Lib.hid hv
   have HR := Lib.hid hrd
   have hcode := codeF_some HB.out hr
   have htree : treeF s = norm t := by unfold treeF; rw [hr]
   have hr2 := hr
   rw [readT_at] at hr2
   have hln := val_len s _ _ t q hr2
   have hle := val_le s _ _ t q hr2
   have HOK := Lib.hid (val_ok s _ _ t q hr2)
   have HLN := Lib.hid (show (txs t).length ≤ 26 * s.size by omega)
   have HTR := Lib.hid htree
   clear hok hno hb1 hT hE hr hr2 hv hrd hgl hln hle htree
   by_cases hend : skip s q = s.size
   ·rw [if_pos hend] at hcode
    have d2 : decide (skip s q = s.size) = true := decide_eq_true hend
    cases hbig : big bigB t with
    | true =>
     rw [hbig, if_pos rfl] at hcode
     rw [hbig] at HR
     obtain ⟨c0, c1, c2⟩ := HR.out.at_
     have c2 := blk_cell HR.out 2
     simp only [List.getElem?_toArray, List.getElem?_cons_zero, List.getElem?_cons_succ] at c2
     have HC := Lib.hid hcode
     clear hcode hend hbig c0 c1
     go_wp2_with fail
     go_ret2
     exact Good.no HC.out (by decide) HB1.out
    | false =>
     rw [hbig, if_neg (by simp)] at hcode
     rw [hbig] at HR
     have c2 := blk_cell HR.out 2
     have c3 := blk_cell HR.out 3
     simp only [List.getElem?_toArray, List.getElem?_cons_zero, List.getElem?_cons_succ] at c2 c3
     cases htw : twice t with
     | true =>
      rw [htw, if_pos rfl] at hcode
      rw [htw] at c3
      have HC := Lib.hid hcode
      clear hcode hend hbig htw
      go_wp2_with fail
      go_ret2
      exact Good.no HC.out (by decide) HB1.out
     | false =>
      rw [htw, if_neg (by simp)] at hcode
      rw [htw] at c3
      have hw := norm_WF t HOK.out
      have hlen : (cts (norm t)).length ≤ 520000 := by
       rw [← tx_ct t HOK.out hbig htw]
       have h1 := HLN.out
       have h2 := HB.out
       omega
      have hcn := cnt_len (norm t) hw
      have HS := Lib.hid (size_all _ (norm t) (Nat.le_refl _) hw (by omega) w1 _ _ HV.out)
      have HC := Lib.hid hcode
      clear hcode hend hbig htw hlen hcn hw
      go_wp2_with fail
      refine HS.out.mono ?_
      rintro e w2 ⟨rfl, hb2⟩
      have HV2 := Lib.hid (V_below HV.out hb2)
      have HB2 := Lib.hid (below_then HB1.out HB1.out.size hb2)
      clear hb2 c2 c3
      generalize hD : dep (norm t) = D at HC
      generalize hCn : cnt (norm t) = C at HC
      clear hD hCn
      by_cases c1 : D ≤ 100
      ·have e1 : decide ((100 : Int) < (D : Int)) = false := decide_eq_false (by omega)
       have e1n : decide (100 < D) = false := decide_eq_false (by omega)
       by_cases c2 : C ≤ 3000
       ·have e2 : decide ((3000 : Int) < (C : Int)) = false := decide_eq_false (by omega)
        have e2n : decide (3000 < C) = false := decide_eq_false (by omega)
        have hc := HC.out
        rw [if_pos ⟨c1, c2⟩] at hc
        have HC0 := Lib.hid hc
        clear hc c1 c2
        go_wp2_with fail
        go_ret2
        refine ⟨fun _ => ⟨_, rfl, ?_⟩, fun h => absurd HC0.out h, HB2.out⟩
        rw [HTR.out]
        exact HV2.out
       ·have e2 : decide ((3000 : Int) < (C : Int)) = true := decide_eq_true (by omega)
        have e2n : decide (3000 < C) = true := decide_eq_true (by omega)
        have hc := HC.out
        rw [if_neg (fun h => c2 h.2)] at hc
        have HC0 := Lib.hid hc
        clear hc c1 c2
        go_wp2_with fail
        go_ret2
        exact Good.no HC0.out (by decide) HB2.out
      ·have e1 : decide ((100 : Int) < (D : Int)) = true := decide_eq_true (by omega)
       have e1n : decide (100 < D) = true := decide_eq_true (by omega)
       have hc := HC.out
       rw [if_neg (fun h => c1 h.1)] at hc
       have HC0 := Lib.hid hc
       clear hc c1
       go_wp2_with fail
       go_ret2
       exact Good.no HC0.out (by decide) HB2.out
   ·rw [if_neg hend] at hcode
    have d2 : decide (skip s q = s.size) = false := decide_eq_false hend
    have HC := Lib.hid hcode
    clear hcode hend
    go_wp2_with fail
    go_ret2
    exact Good.no HC.out (by decide) HB1.out
end Go.Proofs.YtbonodglnilkfaaGreatDoor.Impl
namespace Go.Proofs.YtbonodglnilkfaaGreatDoor.Impl
open Go Go.Proofs Go.RowKit Go.Proofs.YtbonodglnilkfaaGreatDoorW.PrintWords Go.Proofs.YtbonodglnilkfaaGreatDoor.Str Go.Proofs.YtbonodglnilkfaaGreatDoor.Read Go.Proofs.YtbonodglnilkfaaGreatDoor.Val Go.Proofs.YtbonodglnilkfaaGreatDoor.Tree Go.Proofs.YtbonodglnilkfaaGreatDoor.Pf Go.Proofs.YtbonodglnilkfaaGreatDoor.Tchs
set_option linter.unusedVariables false
set_option linter.unusedSimpArgs false
set_option maxHeartbeats 4000000 in
theorem canon (t : T) (hw : WF t) (hz : (cts t).length ≤ 1000000) (w : World) (ok : Nat → Prop) (v : Value) (hv : V w ok t v) (hp : POW w w) :
  Calls Tryz.prog 21 #[v] w fun e w' => e = .returned (.string (ctx t)) ∧ Below w.heap.size w w' := by
 have HC := Lib.hid (write_all _ t (Nat.le_refl _) hw hz w w ok v none 0 [] (cts t) (Below.refl _ _) hv hp (own_nil w _ _ _) (by simp; omega) (by simp))
 obtain ⟨T', x', rfl⟩ := V_iface hv
 clear hv hp hw hz
 go_enter Tryz.func21, Tryz.ntmps21
 go_wp2_with fail
 refine HC.out.mono ?_
 rintro e w1 ⟨A1, n1, rfl, ho, hb, _⟩
 have hcv := own_string (P := Tryz.prog) Tryz.underlying25 Tryz.underlying5 Tryz.underlying9 ho
 have HB := Lib.hid hb
 clear ho hb HC
 generalize (cts t).length = m at hcv ⊢
 have HX := Lib.hid (show ctx t = strOfNums (cts t) from rfl)
 generalize strOfNums (cts t) = y at hcv HX
 go_wp2_with fail
 go_ret
 rw [HX.out]
 exact ⟨rfl, HB.out⟩
theorem canF_len (s : ByteArray) : codeF s = 0 → (cts (treeF s)).length ≤ 1000000 := by
 intro h0
 by_cases hb : 20000 < s.size
 ·rw [codeF_long hb] at h0
  exact absurd h0 (by decide)
 ·cases hr : readT s with
  | none =>
   rw [codeF_none hb hr] at h0
   exact absurd h0 (by decide)
  | some x =>
   obtain ⟨t, q⟩ := x
   have htree : treeF s = norm t := by unfold treeF; rw [hr]
   have hcode := codeF_some hb hr
   rw [h0] at hcode
   rw [readT_at] at hr
   have hle := val_le s _ _ t q hr
   have hln := val_len s _ _ t q hr
   have hok := val_ok s _ _ t q hr
   have hlt : (txs t).length ≤ 26 * s.size := by omega
   by_cases c1 : skip s q = s.size
   ·rw [if_pos c1] at hcode
    cases hbig : big bigB t with
    | true =>
     rw [if_pos hbig] at hcode
     exact absurd hcode (by decide)
    | false =>
     rw [if_neg (by rw [hbig]; simp)] at hcode
     cases htw : twice t with
     | true =>
      rw [if_pos htw] at hcode
      exact absurd hcode (by decide)
     | false =>
      rw [htree, ← tx_ct t hok hbig htw]
      omega
   ·rw [if_neg c1] at hcode
    exact absurd hcode (by decide)
set_option maxHeartbeats 4000000 in
theorem canonI (s : ByteArray) (w : World) (hT : Lib.Utf8Tabs 0 1 w) (hE : EV w) (hg : 5 < w.heap.size ∧ 1 < w.heap.size) (hp : POW w w) :
  Calls Tryz.prog 7 #[.string s] w fun e w' => e = .returned (.tuple #[.string (canF s).1, .int .i64 (canF s).2]) ∧ Below w.heap.size w w' := by
 have HG := Lib.hid (good s w hT hE hg)
 have HP := Lib.hid hp
 have HL := Lib.hid (canF_len s)
 clear hT hE hg hp
 go_enter Tryz.func7, Tryz.ntmps7
 go_wp2_with fail
 refine HG.out.mono ?_
 rintro e w1 ⟨hok, hno, hb1⟩
 have HB1 := Lib.hid hb1
 by_cases h0 : codeF s = 0
 ·obtain ⟨v, rfl, hv⟩ := hok h0
  have hF := canF_ok h0
  have HC := Lib.hid (canon (treeF s) (treeF_WF s) (HL.out h0) w1 _ v hv (fun w' h' => HP.out w' ((HB1.out).trans (h'.mono HB1.out.size))))
  obtain ⟨T', x', rfl⟩ := V_iface hv
  have HF := Lib.hid hF
  clear hok hno hb1 hv hF h0
  go_wp2_with fail
  refine HC.out.mono ?_
  rintro e w2 ⟨rfl, hb2⟩
  have HB2 := Lib.hid (below_then HB1.out HB1.out.size hb2)
  clear hb2
  go_wp2_with fail
  go_ret2
  rw [HF.out]
  exact ⟨rfl, HB2.out⟩
 ·obtain rfl := hno h0
  have hF := canF_no rfl h0
  have d1 : (codeF s != 0) = true := by simpa using h0
  have HF := Lib.hid hF
  generalize codeF s = c at HF d1
  clear hok hno hb1 hF h0
  go_wp2_with fail
  go_ret2
  rw [HF.out]
  exact ⟨rfl, HB1.out⟩
set_option maxRecDepth 100000 in
set_option maxHeartbeats 4000000 in
theorem law_canon (s : ByteArray) (w : World) (hm : s.size ≤ 140737488351232) (hT : Lib.Utf8Tabs 0 1 w) (hE : EV w) (hg : 5 < w.heap.size ∧ 1 < w.heap.size) (hp : POW w w) :
  Calls Tryz.prog 3 #[.string s] w fun e w' => e = .returned (.bool true) ∧ Below w.heap.size w w' := by
 go_enter Tryz.func3, Tryz.ntmps3
 by_cases h1 : (1048576 : Int) < (s.size : Int)
 ·have d1 : decide ((1048576 : Int) < (s.size : Int)) = true := decide_eq_true h1
  go_wp2_with fail
  go_ret
  exact ⟨rfl, Below.refl _ _⟩
 ·have d1 : decide ((1048576 : Int) < (s.size : Int)) = false := decide_eq_false h1
  go_wp2_with fail
  refine (specCanon s w).mono ?_
  rintro e w1 ⟨rfl, hb1⟩
  have HB1 := Lib.hid hb1
  have HC := Lib.hid (canonI s w1 (tabs_tch hT (Tch.of_below hb1 (fun _ => False)) (fun h => h) (fun h => h)) (hE.tch (Tch.of_below hb1 (fun _ => False)) (fun h => h)) ⟨by have := hb1.size; omega, by have := hb1.size; omega⟩ (fun w' h' => hp w' (hb1.trans (h'.mono hb1.size))))
  clear hb1 hT hE hg hp
  generalize (canF s).1 = y at HC ⊢
  generalize (canF s).2 = c at HC ⊢
  go_wp2_with fail
  refine HC.out.mono ?_
  rintro e w2 ⟨rfl, hb2⟩
  have HB2 := Lib.hid (below_then HB1.out HB1.out.size hb2)
  clear hb2 HC
  go_wp2_with fail
  go_ret
  exact ⟨rfl, HB2.out⟩
end Go.Proofs.YtbonodglnilkfaaGreatDoor.Impl
