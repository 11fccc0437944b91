/- impl.good: the contract by hand. -/
import Derived.Test.YtndagnkhjlgjgaaGreatDoorWriD
import Derived.Lib.Atoi
import Derived.Lib.Strings
import Derived.Shelf.Strings.SlTrimAscii
import Derived.Deep.QuietTactic
import Derived.Outline
namespace Go.Proofs.YtndagnkhjlgjgaaGreatDoor.Impl
open Go Go.Proofs Go.RowKit YtndagnkhjlgjgaaGreatDoorW.PrintWords Str Read Val Tree Coll Pf Tchs
set_option linter.unusedVariables false
set_option linter.unusedSimpArgs false
def Good (s : ByteArray) (w : World) (e : Ending) (w' : World) : Prop :=
 (codeF s = 0 → ∃ v, e = .returned (.tuple #[v, .int .i64 0]) ∧ V w' (fun k => w.heap.size ≤ k) (treeF s) v) ∧ (codeF s ≠ 0 → e = .returned (.tuple #[.nilIface, .int .i64 (codeF s)])) ∧ Below w.heap.size w w'
theorem Good.no {s : ByteArray} {w w' : World} {c : Int} (h : codeF s = c) (h0 : c ≠ 0) (hb : Below w.heap.size w w') : Good s w (.returned (.tuple #[.nilIface, .int .i64 c])) w' :=
 ⟨fun hh => absurd (h.symm.trans hh) h0, fun _ => by rw [h], hb⟩
set_option maxRecDepth 100000 in
set_option maxHeartbeats 8000000 in
theorem good (s : ByteArray) (w : World) (hT : Lib.Utf8Tabs 1 2 w) (hE : EV w) (hg : 4 < w.heap.size ∧ 2 < w.heap.size) :
  Calls Tryz.prog 30 #[.string s] w fun e w' => Good s w e w' := by
 go_enter Tryz.func30, Tryz.ntmps30
 by_cases hb : 20000 < s.size
 ·have d1 : decide ((20000 : Int) < (s.size : Int)) = true := decide_eq_true (by omega)
  have d1n : decide (20000 < s.size) = true := decide_eq_true hb
  have HC := Lib.hid (codeF_long hb)
  clear hb
  go_wp2_with fail
  go_ret2
  exact Good.no HC.out (by decide) (Below.refl _ _)
 ·have d1 : decide ((20000 : Int) < (s.size : Int)) = false := decide_eq_false (by omega)
  have d1n : decide (20000 < s.size) = false := decide_eq_false hb
  have HB := Lib.hid hb
  clear hb
  go_wp2_with fail
  refine (read s w (by have := HB.out; omega) hT hE hg).mono ?_
  rintro e w1 ⟨hok, hno, hb1⟩
  have HB1 := Lib.hid hb1
  cases hr : readT s with
  | none =>
   obtain ⟨g, rfl⟩ := hno hr
   have HC := Lib.hid (codeF_none HB.out hr)
   clear hok hno hb1 hT hE hr
   go_wp2_with fail
   go_ret2
   exact Good.no HC.out (by decide) HB1.out
  | some x =>
   obtain ⟨t, q⟩ := x
   obtain ⟨g, v, rfl, hv, hrd, hgl⟩ := hok t q hr
   obtain ⟨T', x', rfl⟩ := V_iface hv
   have HV := Lib.hid hv
   have HR := Lib.hid hrd
   have hcode := codeF_some HB.out hr
   have htree : treeF s = norm t := by unfold treeF; rw [hr]
   have hr2 := hr
   rw [readT_at] at hr2
   have hln := val_len s _ _ t q hr2
   have hle := val_le s _ _ t q hr2
   have HOK := Lib.hid (val_ok s _ _ t q hr2)
   have HLN := Lib.hid (show (txs t).length ≤ 26 * s.size by omega)
   have HTR := Lib.hid htree
   clear hok hno hb1 hT hE hr hr2 hv hrd hgl hln hle htree
   by_cases hend : skip s q = s.size
   ·rw [if_pos hend] at hcode
    have d2 : decide (skip s q = s.size) = true := decide_eq_true hend
    cases hbig : big bigB t with
    | true =>
     rw [hbig, if_pos rfl] at hcode
     rw [hbig] at HR
     obtain ⟨c0, c1, c2⟩ := HR.out.at_
     have c2 := blk_cell HR.out 2
     simp only [List.getElem?_toArray, List.getElem?_cons_zero, List.getElem?_cons_succ] at c2
     have HC := Lib.hid hcode
     clear hcode hend hbig c0 c1
     go_wp2_with fail
     go_ret2
     exact Good.no HC.out (by decide) HB1.out
    | false =>
     rw [hbig, if_neg (by simp)] at hcode
     rw [hbig] at HR
     have c2 := blk_cell HR.out 2
     have c3 := blk_cell HR.out 3
     simp only [List.getElem?_toArray, List.getElem?_cons_zero, List.getElem?_cons_succ] at c2 c3
     cases htw : twice t with
     | true =>
      rw [htw, if_pos rfl] at hcode
      rw [htw] at c3
      have HC := Lib.hid hcode
      clear hcode hend hbig htw
      go_wp2_with fail
      go_ret2
      exact Good.no HC.out (by decide) HB1.out
     | false =>
      rw [htw, if_neg (by simp)] at hcode
      rw [htw] at c3
      have hw := norm_WF t HOK.out
      have hlen : (cts (norm t)).length ≤ 520000 := by
       rw [← tx_ct t HOK.out hbig htw]
       have h1 := HLN.out
       have h2 := HB.out
       omega
      have hcn := cnt_len (norm t) hw
      have HS := Lib.hid (size_all _ (norm t) (Nat.le_refl _) hw (by omega) w1 _ _ HV.out)
      have HC := Lib.hid hcode
      clear hcode hend hbig htw hlen hcn hw
      go_wp2_with fail
      refine HS.out.mono ?_
      rintro e w2 ⟨rfl, hb2⟩
      have HV2 := Lib.hid (V_below HV.out hb2)
      have HB2 := Lib.hid (below_then HB1.out HB1.out.size hb2)
      clear hb2 c2 c3
      generalize hD : dep (norm t) = D at HC
      generalize hCn : cnt (norm t) = C at HC
      clear hD hCn
      by_cases c1 : D ≤ 100
      ·have e1 : decide ((100 : Int) < (D : Int)) = false := decide_eq_false (by omega)
       have e1n : decide (100 < D) = false := decide_eq_false (by omega)
       by_cases c2 : C ≤ 3000
       ·have e2 : decide ((3000 : Int) < (C : Int)) = false := decide_eq_false (by omega)
        have e2n : decide (3000 < C) = false := decide_eq_false (by omega)
        have hc := HC.out
        rw [if_pos ⟨c1, c2⟩] at hc
        have HC0 := Lib.hid hc
        clear hc c1 c2
        go_wp2_with fail
        go_ret2
        refine ⟨fun _ => ⟨_, rfl, ?_⟩, fun h => absurd HC0.out h, HB2.out⟩
        rw [HTR.out]
        exact HV2.out
       ·have e2 : decide ((3000 : Int) < (C : Int)) = true := decide_eq_true (by omega)
        have e2n : decide (3000 < C) = true := decide_eq_true (by omega)
        have hc := HC.out
        rw [if_neg (fun h => c2 h.2)] at hc
        have HC0 := Lib.hid hc
        clear hc c1 c2
        go_wp2_with fail
        go_ret2
        exact Good.no HC0.out (by decide) HB2.out
      ·have e1 : decide ((100 : Int) < (D : Int)) = true := decide_eq_true (by omega)
       have e1n : decide (100 < D) = true := decide_eq_true (by omega)
       have hc := HC.out
       rw [if_neg (fun h => c1 h.1)] at hc
       have HC0 := Lib.hid hc
       clear hc c1
       go_wp2_with fail
       go_ret2
       exact Good.no HC0.out (by decide) HB2.out
   ·rw [if_neg hend] at hcode
    have d2 : decide (skip s q = s.size) = false := decide_eq_false hend
    have HC := Lib.hid hcode
    clear hcode hend
    go_wp2_with fail
    go_ret2
    exact Good.no HC.out (by decide) HB1.out
end Go.Proofs.YtndagnkhjlgjgaaGreatDoor.Impl
namespace Go.Proofs.YtndagnkhjlgjgaaGreatDoor.Impl
open Go Go.Proofs Go.RowKit YtndagnkhjlgjgaaGreatDoorW.PrintWords Str Read Val Tree Pf Tchs
set_option linter.unusedVariables false
set_option linter.unusedSimpArgs false
set_option maxHeartbeats 4000000 in
theorem canon (t : T) (hw : WF t) (hz : (cts t).length ≤ 1000000) (w : World) (ok : Nat → Prop) (v : Value) (hv : V w ok t v) (hp : POW w w) :
  Calls Tryz.prog 33 #[v] w fun e w' => e = .returned (.string (ctx t)) ∧ Below w.heap.size w w' := by
 have HC := Lib.hid (write_all _ t (Nat.le_refl _) hw hz w w ok v none 0 [] (cts t) (Below.refl _ _) hv hp (own_nil w _ _ _) (by simp; omega) (by simp))
 obtain ⟨T', x', rfl⟩ := V_iface hv
 clear hv hp hw hz
 go_enter Tryz.func33, Tryz.ntmps33
 go_wp2_with fail
 refine HC.out.mono ?_
 rintro e w1 ⟨A1, n1, rfl, ho, hb, _⟩
 have hcv := own_string (P := Tryz.prog) Tryz.underlying44 Tryz.underlying5 Tryz.underlying9 ho
 have HB := Lib.hid hb
 clear ho hb HC
 generalize (cts t).length = m at hcv ⊢
 have HX := Lib.hid (show ctx t = strOfNums (cts t) from rfl)
 generalize strOfNums (cts t) = y at hcv HX
 go_wp2_with fail
 go_ret
 rw [HX.out]
 exact ⟨rfl, HB.out⟩
end Go.Proofs.YtndagnkhjlgjgaaGreatDoor.Impl
namespace Go.Proofs.YtndagnkhjlgjgaaGreatDoor.At
open Go Go.Proofs Go.RowKit YtndagnkhjlgjgaaGreatDoorW.PrintWords Str Tree Read PJt Own Pf Impl
set_option linter.unusedVariables false
set_option linter.unusedSimpArgs false
theorem getS (u : T) (hw : WF u) (hs : (ctx u).size ≤ 900000) (ts : List ByteArray) (hl : ts.length ≤ 10000000) (A : Option Addr) (c : Nat) (w : World) (hr : Kd.C Kd.string w A ts.length ts) (hc : ts.length ≤ c) :
  Calls Tryz.prog 29 #[.string (ctx u), .slice A ts.length c] w fun e w' => e = .returned (.tuple #[.string (getR (atF u ts)).1, .bool (getR (atF u ts)).2]) ∧ Below w.heap.size w w' := by
 letI : Inhabited Rec := ⟨rec0⟩
 have h := get_l0 (fun s hs i h1 => by
   show (if 0 ≤ (i : Int) ∧ (i : Int) ≤ 2097152 ∧ s.size ≤ 1048576 then _ else none) = _
   rw [if_pos ⟨by omega, by omega, by omega⟩, Int.toNat_natCast])
  (fun n h1 => by
   show (if 0 ≤ (n : Int) ∧ (n : Int) ≤ 1000000000 then _ else none) = _
   rw [if_pos ⟨by omega, by omega⟩, Int.toNat_natCast]) ts hl ts.length 0 30000000 u (by omega) (by omega) (by omega) hw hs
 rw [List.drop_zero] at h
 exact spec_l1Get.calls 30000000 (ctx u) A c ts _ _ w hr hc h
def resG : Option T → ByteArray × Int
 | some v => (ctx v, 0)
 | none => (⟨#[]⟩, 3)
def resP (u : T) (p : ByteArray) : ByteArray × Int := if (Tok.tokF p).2 = true then resG (atF u (Tok.tokF p).1) else (⟨#[]⟩, 2)
def resF (s p : ByteArray) : ByteArray × Int := if codeF s = 0 then resP (treeF s) p else (⟨#[]⟩, 1)
theorem len_of (s : ByteArray) (h : codeF s = 0) : (ctx (treeF s)).size ≤ 900000 := by
 have h1 : (ctx (treeF s)).size = (cts (treeF s)).length := strOfNums_size _
 rw [h1]
 by_cases hb : 20000 < s.size
 ·rw [codeF_long hb] at h
  exact absurd h (by decide)
 ·cases hr : readT s with
  | none =>
   rw [codeF_none hb hr] at h
   exact absurd h (by decide)
  | some x =>
   obtain ⟨t, q⟩ := x
   have htree : treeF s = norm t := by unfold treeF; rw [hr]
   have hcode := codeF_some hb hr
   rw [h] at hcode
   rw [readT_at] at hr
   have hle := val_le s _ _ t q hr
   have hln := val_len s _ _ t q hr
   have hok := val_ok s _ _ t q hr
   have hlt : (txs t).length ≤ 26 * s.size := by omega
   by_cases c1 : skip s q = s.size
   ·rw [if_pos c1] at hcode
    cases hbig : big bigB t with
    | true =>
     rw [if_pos hbig] at hcode
     exact absurd hcode (by decide)
    | false =>
     rw [if_neg (by rw [hbig]; simp)] at hcode
     cases htw : twice t with
     | true =>
      rw [if_pos htw] at hcode
      exact absurd hcode (by decide)
     | false =>
      rw [htree, ← tx_ct t hok hbig htw]
      omega
   ·rw [if_neg c1] at hcode
    exact absurd hcode (by decide)
set_option maxRecDepth 100000 in
set_option maxHeartbeats 4000000 in
theorem resolveS (s p : ByteArray) (hp : p.size ≤ 1048576) (w : World) :
  Calls Tryz.prog 8 #[.string s, .string p] w fun e w' => e = .returned (.tuple #[.string (resF s p).1, .int .i64 (resF s p).2]) ∧ Below w.heap.size w w' := by
 have HP := Lib.hid hp
 clear hp
 go_enter Tryz.func8, Tryz.ntmps8
 go_wp2_with fail
 refine (specCanon s w).mono ?_
 rintro e w1 ⟨rfl, hb1⟩
 have HB1 := Lib.hid hb1
 clear hb1
 by_cases h0 : codeF s = 0
 ·have HL := Lib.hid (len_of s h0)
  have hr : resF s p = resP (treeF s) p := if_pos h0
  rw [canF_ok h0]
  have HR := Lib.hid hr
  clear h0 hr
  go_wp2_with fail
  refine (spec_PtrTokens.calls 10000000 p (Tok.tokF p).1 (Tok.tokF p).2 w1 (Tok.specPtrTokens p (by have := HP.out; omega) _ (by have := HP.out; omega))).mono ?_
  rintro e w2 ⟨v0, rfl, hr2, hb2⟩
  have HB2 := Lib.hid (below_step HB1.out hb2)
  obtain ⟨A, c, rfl⟩ := Kd.R_slice hr2
  have HC := Lib.hid (Kd.R_reads' hr2)
  have HTL := Lib.hid (Tok.tokF_len p)
  clear hb2 hr2
  cases hok : (Tok.tokF p).2 with
  | false =>
   have HX := Lib.hid (show resF s p = (⟨#[]⟩, 2) by rw [HR.out]; unfold resP; rw [hok]; rfl)
   clear hok
   go_wp2_with fail
   go_ret2
   rw [HX.out]
   exact ⟨rfl, HB2.out⟩
  | true =>
   have HX := Lib.hid (show resF s p = resG (atF (treeF s) (Tok.tokF p).1) by rw [HR.out]; unfold resP; rw [hok]; rfl)
   clear hok
   go_wp2_with fail
   refine (getS (treeF s) (treeF_WF s) HL.out (Tok.tokF p).1 (by have := HTL.out; have := HP.out; omega) A c w2 HC.out.2.2 HC.out.2.1).mono ?_
   rintro e w3 ⟨rfl, hb3⟩
   have HB3 := Lib.hid (below_step HB2.out hb3)
   clear hb3
   cases ha : atF (treeF s) (Tok.tokF p).1 with
   | none =>
    have HY := Lib.hid (show resF s p = (⟨#[]⟩, 3) by rw [HX.out, ha]; rfl)
    rw [show getR (none : Option T) = (⟨#[]⟩, false) from rfl]
    clear ha
    go_wp2_with fail
    go_ret2
    rw [HY.out]
    exact ⟨rfl, HB3.out⟩
   | some v =>
    have HY := Lib.hid (show resF s p = (ctx v, 0) by rw [HX.out, ha]; rfl)
    rw [show getR (some v) = (ctx v, true) from rfl]
    clear ha
    generalize ctx v = y at HY ⊢
    go_wp2_with fail
    go_ret2
    rw [HY.out]
    exact ⟨rfl, HB3.out⟩
 ·have hr : resF s p = (⟨#[]⟩, 1) := if_neg h0
  have hF := canF_no rfl h0
  have d1 : (codeF s != 0) = true := by simpa using h0
  have HX := Lib.hid hr
  rw [hF]
  generalize codeF s = c at d1
  clear h0 hr hF
  go_wp2_with fail
  go_ret2
  rw [HX.out]
  exact ⟨rfl, HB1.out⟩
end Go.Proofs.YtndagnkhjlgjgaaGreatDoor.At
namespace Go.Proofs.YtndagnkhjlgjgaaGreatDoor.At
open Go Go.Proofs Go.RowKit YtndagnkhjlgjgaaGreatDoorW.PrintWords YtndagnkhjlgjgaaGreatDoorW.PrintLast Tchs
set_option linter.unusedVariables false
set_option linter.unusedSimpArgs false
theorem dig_tab : ∀ n : Fin 256, ([48, 49, 50, 51, 52, 53, 54, 55, 56, 57] : List UInt8).contains (UInt8.ofNat n.1) = decide (48 ≤ n.1 ∧ n.1 ≤ 57) := by decide +kernel
theorem dig_mem (b : UInt8) : ([48, 49, 50, 51, 52, 53, 54, 55, 56, 57] : List UInt8).contains b = decide (48 ≤ b.toNat ∧ b.toNat ≤ 57) := by
 have h := dig_tab ⟨b.toNat, b.toNat_lt⟩
 simpa using h
theorem dropWhile_nil {α : Type} (p : α → Bool) : ∀ l : List α, l.dropWhile p = [] ↔ l.all p = true
 | [] => by simp
 | a :: l => by
  by_cases h : p a = true
  ·simp [List.dropWhile, h, dropWhile_nil p l]
  ·simp [List.dropWhile, h]
theorem dropWhile_all {α : Type} (p : α → Bool) : ∀ l : List α, (l.dropWhile p).all p = true → l.dropWhile p = []
 | [], _ => rfl
 | a :: l, h => by
  by_cases ha : p a = true
  ·rw [List.dropWhile_cons_of_pos ha] at h ⊢
   exact dropWhile_all p l h
  ·rw [List.dropWhile_cons_of_neg ha] at h
   simp [ha] at h
theorem trim_digs (l : List UInt8) : Lib.trimS l [48, 49, 50, 51, 52, 53, 54, 55, 56, 57] = [] ↔ digsL l = true := by
 have hp : (fun b : UInt8 => ([48, 49, 50, 51, 52, 53, 54, 55, 56, 57] : List UInt8).contains b) = fun b => decide (48 ≤ b.toNat ∧ b.toNat ≤ 57) := funext dig_mem
 unfold Lib.trimS Lib.trimLeftS Lib.trimRightS digsL
 rw [hp, dropWhile_nil, List.all_reverse]
 constructor
 ·intro h
  have h2 := (dropWhile_nil _ _).1 (dropWhile_all _ _ h)
  rwa [List.all_reverse] at h2
 ·intro h
  have h2 : (l.reverse.dropWhile fun b : UInt8 => decide (48 ≤ b.toNat ∧ b.toNat ≤ 57)) = [] := (dropWhile_nil _ _).2 (by rw [List.all_reverse]; exact h)
  rw [h2]
  rfl
theorem decFrom_ix : ∀ (l : List UInt8) (acc : Nat), digsL l = true → Lib.decFrom acc l = some (ixV acc l)
 | [], acc, _ => by rw [ixV_nil]; rfl
 | b :: r, acc, h => by
  have h1 := digs_app (a := [b]) (b := r) h
  have hb := digs_one h1.1
  rw [ixV_cons, ixS_eq, ← decFrom_ix r (acc * 10 + (b.toNat - 48)) h1.2]
  simp only [Lib.decFrom, Lib.digitVal, if_pos hb]
theorem atoi_ix (l : List UInt8) (h1 : 1 ≤ l.length) (h : digsL l = true) : Lib.atoi l = some ((ixV 0 l : Nat) : Int) := by
 cases l with
 | nil => simp at h1
 | cons b r =>
  have hb := digs_one (digs_app (a := [b]) (b := r) h).1
  have e1 : (b == 45) = false := by
   rw [beq_eq_false_iff_ne]; intro he; rw [he] at hb; revert hb; decide
  have e2 : (b == 43) = false := by
   rw [beq_eq_false_iff_ne]; intro he; rw [he] at hb; revert hb; decide
  simp only [Lib.atoi, e1, e2, Lib.decNat]
  rw [decFrom_ix (b :: r) 0 h]
  rfl
def ixR (t : ByteArray) (m : Int) : Int × Bool := match idxF t with
 | some n => ((n : Int), decide ((n : Int) ≤ m))
 | none => (0, false)
theorem ixR_no {t : ByteArray} {m : Int} (h : idxF t = none) : ixR t m = (0, false) := by unfold ixR; rw [h]
theorem ixR_yes {t : ByteArray} {m : Int} {n : Nat} (h : idxF t = some n) : ixR t m = ((n : Int), decide ((n : Int) ≤ m)) := by unfold ixR; rw [h]
set_option maxRecDepth 100000 in
set_option maxHeartbeats 4000000 in
theorem indexOf (t : ByteArray) (m : Int) (ht : t.size ≤ 100000000) (w : World) :
  Calls Tryz.prog 61 #[.string t, .int .i64 m] w fun e w' => e = .returned (.tuple #[.int .i64 (ixR t m).1, .bool (ixR t m).2]) ∧ Below w.heap.size w w' := by
 go_enter Tryz.func61, Tryz.ntmps61
 by_cases h1 : t.size < 1
 ·have d1 : decide ((t.size : Int) < 1) = true := decide_eq_true (by omega)
  have d1n : decide (t.size < 1) = true := decide_eq_true h1
  have d1z : t.size = 0 := by omega
  have HX := Lib.hid (ixR_no (t := t) (m := m) (if_neg (by omega)))
  clear h1
  go_wp2_with fail
  go_ret2
  rw [HX.out]
  exact ⟨rfl, Below.refl _ _⟩
 have d1 : decide ((t.size : Int) < 1) = false := decide_eq_false (by omega)
 have d1n : decide (t.size < 1) = false := decide_eq_false h1
 have d1z : ¬ t.size = 0 := by omega
 by_cases h2 : 6 < t.size
 ·have d2 : decide ((6 : Int) < (t.size : Int)) = true := decide_eq_true (by omega)
  have d2n : decide (6 < t.size) = true := decide_eq_true h2
  have HX := Lib.hid (ixR_no (t := t) (m := m) (if_neg (by omega)))
  clear h1 h2
  go_wp2_with fail
  go_ret2
  rw [HX.out]
  exact ⟨rfl, Below.refl _ _⟩
 have d2 : decide ((6 : Int) < (t.size : Int)) = false := decide_eq_false (by omega)
 have d2n : decide (6 < t.size) = false := decide_eq_false h2
 have H12 := Lib.hid (show 1 ≤ t.size ∧ t.size ≤ 6 from ⟨by omega, by omega⟩)
 have HT := Lib.hid ht
 clear h1 h2 ht
 go_wp2_with fail
 refine (Any.strings_Trim_laid Tryz.lays160 (by kernel_rfl) t ⟨#[48, 49, 50, 51, 52, 53, 54, 55, 56, 57]⟩ _ (by have := HT.out; omega) (by decide) (ascii_of_all (by decide))).mono ?_
 rintro e w1 ⟨rfl, hb1⟩
 rw [show (⟨#[48, 49, 50, 51, 52, 53, 54, 55, 56, 57]⟩ : ByteArray).data.toList = [48, 49, 50, 51, 52, 53, 54, 55, 56, 57] from rfl]
 have HB1 := Lib.hid hb1
 clear hb1
 by_cases hdg : digsL t.data.toList = true
 ·rw [(trim_digs t.data.toList).2 hdg]
  have hx0 : ∀ hh : 0 < t.size, ((t[0]'hh).toNat : Int) = bt t 0 := fun hh => bt_at t 0 hh
  have hlt : 0 < t.size := by have := H12.out; omega
  by_cases h3 : 1 < t.size
  ·have d3 : decide ((1 : Int) < (t.size : Int)) = true := decide_eq_true (by omega)
   have d3n : decide (1 < t.size) = true := decide_eq_true h3
   by_cases h4 : bt t 0 = 48
   ·have d4 : (bt t 0 == 48) = true := beq_iff_eq.mpr h4
    have HX := Lib.hid (ixR_no (t := t) (m := m) (if_neg (fun h => h.2.2.2 ⟨h3, h4⟩)))
    clear hdg h3 h4
    go_wp2_with fail
    go_ret2
    rw [HX.out]
    exact ⟨rfl, HB1.out⟩
   ·have d4 : (bt t 0 == 48) = false := beq_eq_false_iff_ne.mpr h4
    have HI := Lib.hid (show idxF t = some (ixV 0 t.data.toList) from if_pos ⟨H12.out.1, H12.out.2, hdg, fun h => h4 h.2⟩)
    have HA := Lib.hid (atoi_ix t.data.toList (by rw [size_list]; exact H12.out.1) hdg)
    clear hdg h3 h4
    generalize hn : ixV 0 t.data.toList = n at HI HA
    clear hn
    go_wp2_with fail
    refine (Tryz.strconv_Atoi t (n : Int) (by have := H12.out; omega) HA.out _).mono ?_
    rintro e w4 ⟨rfl, t4, rfl⟩
    have HB4 := Lib.hid (below_step HB1.out (Lib.bytesWorld_below w1 5 t4))
    generalize Lib.bytesWorld w1 5 t4 = w4 at HB4 ⊢
    go_wp2_with fail
    go_ret2
    rw [ixR_yes HI.out]
    exact ⟨rfl, HB4.out⟩
  ·have d3 : decide ((1 : Int) < (t.size : Int)) = false := decide_eq_false (by omega)
   have d3n : decide (1 < t.size) = false := decide_eq_false h3
   have HI := Lib.hid (show idxF t = some (ixV 0 t.data.toList) from if_pos ⟨H12.out.1, H12.out.2, hdg, fun h => h3 h.1⟩)
   have HA := Lib.hid (atoi_ix t.data.toList (by rw [size_list]; exact H12.out.1) hdg)
   clear hdg h3
   generalize hn : ixV 0 t.data.toList = n at HI HA
   clear hn
   go_wp2_with fail
   refine (Tryz.strconv_Atoi t (n : Int) (by have := H12.out; omega) HA.out _).mono ?_
   rintro e w4 ⟨rfl, t4, rfl⟩
   have HB4 := Lib.hid (below_step HB1.out (Lib.bytesWorld_below w1 5 t4))
   generalize Lib.bytesWorld w1 5 t4 = w4 at HB4 ⊢
   go_wp2_with fail
   go_ret2
   rw [ixR_yes HI.out]
   exact ⟨rfl, HB4.out⟩
 ·have hx : (Lib.trimS t.data.toList [48, 49, 50, 51, 52, 53, 54, 55, 56, 57]).isEmpty = false := by
   rw [Bool.eq_false_iff]
   intro h
   exact hdg ((trim_digs _).1 (List.isEmpty_iff.1 h))
  have HX := Lib.hid (ixR_no (t := t) (m := m) (if_neg (fun h => hdg h.2.2.1)))
  clear hdg
  go_wp2_with fail
  go_ret2
  rw [HX.out]
  exact ⟨rfl, HB1.out⟩
end Go.Proofs.YtndagnkhjlgjgaaGreatDoor.At
