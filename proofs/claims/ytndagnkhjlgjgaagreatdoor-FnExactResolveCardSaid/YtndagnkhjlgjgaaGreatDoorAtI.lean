/- impl.at: the contract by hand. -/
import Derived.Test.YtndagnkhjlgjgaaGreatDoorIdx
namespace Go.Proofs.YtndagnkhjlgjgaaGreatDoor.At
open Go Go.Proofs Go.RowKit YtndagnkhjlgjgaaGreatDoorW.PrintWords YtndagnkhjlgjgaaGreatDoorW.PrintLast Str Tree Read Val Pf Impl Tchs
set_option linter.unusedVariables false
set_option linter.unusedSimpArgs false
theorem find_obj (t : ByteArray) : ∀ (l : List (ByteArray × T)) (j : Nat), (findP t (prtM l) j = -1 ∧ ∀ x ∈ l, x.1.data.toList ≠ t.data.toList) ∨ ∃ i p, findP t (prtM l) j = ((j + i : Nat) : Int) ∧ l[i]? = some p ∧ p.1 = t
 | [], j => .inl ⟨rfl, fun x hx => by cases hx⟩
 | (k, v) :: l, j => by
  have e : findP t (prtM ((k, v) :: l)) j = if k.data.toList = t.data.toList then (j : Int) else findP t (prtM l) (j + 1) := rfl
  rw [e]
  by_cases h : k.data.toList = t.data.toList
  ·rw [if_pos h]
   exact .inr ⟨0, (k, v), by simp, rfl, ByteArray.ext (Array.ext' h)⟩
  ·rw [if_neg h]
   rcases find_obj t l (j + 1) with ⟨h1, h2⟩ | ⟨i, p, h1, h2, h3⟩
   ·exact .inl ⟨h1, fun x hx => by
     rcases List.mem_cons.1 hx with rfl | hx
     ·exact h
     ·exact h2 x hx⟩
   ·exact .inr ⟨i + 1, p, by rw [h1]; congr 1; omega, h2, h3⟩
theorem atKey_none (ds : List (ByteArray × Value)) (t : ByteArray) (h : ∀ x ∈ ds, x.1.data.toList ≠ t.data.toList) (z : DataW Value) : (encM ds).atKey (.string t.data.toList) z = z := by
 unfold encM DataW.atKey
 simp only [List.find?_map]
 have e : ((fun p_1 : Lit × DataW Value => p_1.1.sameKey (.string t.data.toList)) ∘ fun x : ByteArray × Value => ((.string x.1.data.toList, .held x.2) : Lit × DataW Value)) = fun q => q.1.data.toList == t.data.toList := by
  funext q
  rfl
 rw [e, List.find?_eq_none.2 (fun x hx => by simpa using h x hx)]
 rfl
theorem look_some (w : World) (g n : Nat) (ds : List (ByteArray × Value)) (hown : w.ownsMap Tryz.prog 9 Rd g n (encM ds)) (hs : ds.Pairwise (fun a b => keyB a b = true)) (i : Nat) (p : ByteArray × Value) (h : ds[i]? = some p) (hsz : p.1.size ≤ 1000000000) :
  (Instr.lookup 103 (.map (some g)) (.string p.1) true).run Tryz.prog w = .ok (.tuple #[p.2, .bool true]) w := by
 have hkey : keyOf Tryz.prog 9 (.string p.1) = some (.string p.1.data.toList) := Go.WideMaps.keyOf_string_mk Tryz.underlying9 (by simp only [maxLen]; omega)
 obtain ⟨v, ps, hr, hv⟩ := hown.look_ok (Go.Maps.string_keyed Tryz.underlying9) Tryz.underlying103 (zeroV w) (zd := .held .nilIface) (zp := []) rfl hkey
 rw [atKey_enc ds hs i p h] at hv
 unfold Rd at hv
 simp only [Option.some.injEq, Prod.mk.injEq, DataW.held.injEq] at hv
 rw [hr, hv.1, Go.Maps.has_true_of_atKey (fun z => atKey_enc ds hs i p h z)]
theorem look_none (w : World) (g n : Nat) (ds : List (ByteArray × Value)) (hown : w.ownsMap Tryz.prog 9 Rd g n (encM ds)) (t : ByteArray) (h : ∀ x ∈ ds, x.1.data.toList ≠ t.data.toList) (hsz : t.size ≤ 1000000000) :
  (Instr.lookup 103 (.map (some g)) (.string t) true).run Tryz.prog w = .ok (.tuple #[.nilIface, .bool false]) w := by
 have hkey : keyOf Tryz.prog 9 (.string t) = some (.string t.data.toList) := Go.WideMaps.keyOf_string_mk Tryz.underlying9 (by simp only [maxLen]; omega)
 obtain ⟨v, ps, hr, hv⟩ := hown.look_ok (Go.Maps.string_keyed Tryz.underlying9) Tryz.underlying103 (zeroV w) (zd := .held .nilIface) (zp := []) rfl hkey
 rw [atKey_none ds t h] at hv
 unfold Rd at hv
 simp only [Option.some.injEq, Prod.mk.injEq, DataW.held.injEq] at hv
 rw [hr, hv.1, Go.Maps.has_false_of_atKey (fun z => atKey_none ds t h z)]
theorem own_len {w : World} {b : Nat} {e : TypeId} {m : Nat} {v : Value} {n : Nat} {xs : List Value} (h : w.ownsRow b e m v n xs) : n ≤ maxLen := by
 rcases h.2 with ⟨_, hn⟩ | ⟨g, cap, cur, hv, hb, hg, h1, h2, _⟩
 ·rw [hn]; exact Nat.zero_le _
 ·exact Nat.le_trans h1 h2
def AtR (u : T) (ts : List ByteArray) (w : World) (ok : Nat → Prop) (e : Ending) (w' : World) : Prop :=
 (∀ u', atF u ts = some u' → ∃ v', e = .returned (.tuple #[v', .bool true]) ∧ V w' ok u' v' ∧ WF u') ∧ (atF u ts = none → e = .returned (.tuple #[.nilIface, .bool false])) ∧ Below w.heap.size w w'
theorem AtR.no {u u1 : T} {ts r : List ByteArray} {t : ByteArray} {w w' : World} {ok : Nat → Prop} (h : atF u ts = atF u1 (t :: r)) (hs : stepF u1 t = none) (hb : Below w.heap.size w w') : AtR u ts w ok (.returned (.tuple #[.nilIface, .bool false])) w' := by
 have h2 : atF u ts = none := by rw [h, atF, hs]
 exact ⟨fun u' hu => (by rw [h2] at hu; cases hu), fun _ => rfl, hb⟩
theorem step_neg {u : T} {t : ByteArray} (h : childF u t = -1) : stepF u t = none := by
 unfold stepF
 rw [h, if_pos (by decide)]
theorem step_pos {u : T} {t : ByteArray} {i : Nat} {v : T} (h : childF u t = (i : Int)) (hk : (kids u)[i]? = some v) : stepF u t = some v := by
 unfold stepF
 rw [h, if_neg (by omega), Int.toNat_natCast]
 exact hk
theorem leaf_step {u : T} {t : ByteArray} (h : childF u t = findP t [] 0) : stepF u t = none := step_neg h
theorem kinds {w : World} {ok : Nat → Prop} {u : T} {v : Value} (hv : V w ok u v) (t : ByteArray) : (∃ l, u = .obj l) ∨ (∃ l, u = .arr l) ∨
  (∃ T x, v = .iface T x ∧ (∀ W : World, (Instr.typeAssert (.iface T x) 55 103 true).run Tryz.prog W = .ok (.tuple #[.map none, .bool false]) W) ∧ (∀ W : World, (Instr.typeAssert (.iface T x) 55 105 true).run Tryz.prog W = .ok (.tuple #[.slice none 0 0, .bool false]) W) ∧ stepF u t = none) := by
 cases u with
 | obj l => exact .inl ⟨l, rfl⟩
 | arr l => exact .inr (.inl ⟨l, rfl⟩)
 | nul => rw [V] at hv; exact .inr (.inr ⟨_, _, hv, fun W => asr_null_object _ W, fun W => asr_null_list _ W, leaf_step rfl⟩)
 | tru => rw [V] at hv; exact .inr (.inr ⟨_, _, hv, fun W => asr_truth_object _ W, fun W => asr_truth_list _ W, leaf_step rfl⟩)
 | fls => rw [V] at hv; exact .inr (.inr ⟨_, _, hv, fun W => asr_truth_object _ W, fun W => asr_truth_list _ W, leaf_step rfl⟩)
 | num x => rw [V] at hv; obtain ⟨n, hv, _⟩ := hv; exact .inr (.inr ⟨_, _, hv, fun W => asr_number_object _ W, fun W => asr_number_list _ W, leaf_step rfl⟩)
 | str b => rw [V] at hv; exact .inr (.inr ⟨_, _, hv, fun W => asr_text_object _ W, fun W => asr_text_list _ W, leaf_step rfl⟩)
theorem VM_key {w : World} {ok : Nat → Prop} {t : ByteArray} : ∀ {l : List (ByteArray × T)} {ds : List (ByteArray × Value)}, VM w ok l ds → (∀ x ∈ l, x.1.data.toList ≠ t.data.toList) → ∀ x ∈ ds, x.1.data.toList ≠ t.data.toList
 | [], ds, h, _ => by
  rw [VM] at h
  subst h
  exact fun x hx => by cases hx
 | (k, u) :: l, ds, h, hk => by
  rw [VM] at h
  obtain ⟨c, r, rfl, h1, h2⟩ := h
  intro x hx
  rcases List.mem_cons.1 hx with rfl | hx
  ·exact hk (k, u) List.mem_cons_self
  ·exact VM_key h2 (fun y hy => hk y (List.mem_cons_of_mem _ hy)) x hx
theorem AtR.go {u u1 u2 : T} {ts : List ByteArray} {t : ByteArray} {j : Nat} (h : atF u ts = atF u1 (t :: ts.drop (j + 1))) (hs : stepF u1 t = some u2) : atF u ts = atF u2 (ts.drop (j + 1)) := by rw [h, atF, hs]
set_option maxRecDepth 100000 in
set_option maxHeartbeats 8000000 in
theorem at_ (u : T) (hw : WF u) (w : World) (ok : Nat → Prop) (v : Value) (hv : V w ok u v) (ts : List ByteArray) (hl : ts.length ≤ 10000000) (hz : ∀ t ∈ ts, t.size ≤ 100000000) (A : Option Addr) (c : Nat) (hr : Kd.C Kd.string w A ts.length ts) :
  Calls Tryz.prog 32 #[v, .slice A ts.length c] w fun e w' => AtR u ts w ok e w' := by
 have HR := Lib.hid hr
 have HL := Lib.hid hl
 have HZ := Lib.hid hz
 have HV := Lib.hid hv
 have HW := Lib.hid hw
 obtain ⟨T0, x0, rfl⟩ := V_iface hv
 clear hr hl hz hv hw
 go_enter Tryz.func32, Tryz.ntmps32
 go_wp2_with fail
 go_loopw [0, 17] (fun v0 v17 wr => ∃ (j : Nat) (u1 : T), v17 = .int .i64 (j : Int) ∧ Hid (j ≤ ts.length) ∧ Hid (WF u1) ∧ Hid (V wr ok u1 v0) ∧ Hid (atF u ts = atF u1 (ts.drop j)) ∧ Hid (Below w.heap.size w wr)) (fun _ v17 _ => ts.length - (intOf v17).toNat)
 case atStart => exact ⟨0, u, rfl, Lib.hid (Nat.zero_le _), HW, HV, Lib.hid (by rw [List.drop_zero]), Lib.hid (Below.refl _ _)⟩
 case round =>
  clear HV HW
  obtain ⟨j, u1, rfl, HJ, HW, HV, HA, HB⟩ := hrel
  by_cases hj : j < ts.length
  ·have d1 : decide ((j : Int) < (ts.length : Int)) = true := decide_eq_true (by omega)
   have d1n : decide (j < ts.length) = true := decide_eq_true hj
   obtain ⟨ad, rfl, hcell⟩ := Kd.at_string HR.out (j : Int) (by omega) (by omega)
   rw [Tok.rd_at ts j hj, Int.toNat_natCast] at hcell
   replace hcell := (HB.out.cell (World.block_lt_of_cell? w _ hcell)).trans hcell
   have hzt := HZ.out ts[j] (List.getElem_mem hj)
   have hdr := List.drop_eq_getElem_cons hj
   have HA2 := Lib.hid (HA.out.trans (by rw [hdr]))
   generalize ts[j] = t at hcell hzt HA2
   have HZT := Lib.hid hzt
   have HJJ := Lib.hid hj
   clear hzt hdr hj
   have hwj : IntKind.i64.wrap ((j : Int) + 1) = (j : Int) + 1 := by rw [IntKind.wrap_i64]; have := HJ.out; have := HL.out; omega
   have p4 : ((0 : Int) ≤ (j : Int)) = True := eq_true (by omega)
   have q4 : ((j : Int) < (ts.length : Int)) = True := eq_true (by have := HJJ.out; omega)
   rcases kinds HV.out t with ⟨l, rfl⟩ | ⟨l, rfl⟩ | ⟨T1, x1, rfl, hq1, hq2, hst⟩
   ·have hv1 := HV.out
    rw [V] at hv1
    obtain ⟨g, n, ds, rfl, hg, hown, hvm⟩ := hv1
    have hsd : ds.Pairwise (fun a b => keyB a b = true) := VM_sorted hvm (by have := HW.out; rw [WF] at this; exact this.2)
    have hq1 := asr_object_object (.map (some g))
    rcases find_obj t l 0 with ⟨hf, hne⟩ | ⟨i, p, hf, hi, hpt⟩
    ·have hlk := look_none wr g n ds hown t (VM_key hvm hne) (by have := HZT.out; omega)
     have HN := Lib.hid (AtR.no HA2.out (step_neg hf) HB.out (ok := ok))
     clear hg hown hvm hsd hf hne
     go_wp2_with fail
     go_ret2
     exact HN.out
    ·obtain ⟨c1, hc1, hvc⟩ := VM_get hvm i p hi
     have hlk := look_some wr g n ds hown hsd i _ hc1 (by rw [hpt]; have := HZT.out; omega)
     rw [hpt] at hlk
     rw [Nat.zero_add] at hf
     have hik : (kids (.obj l))[i]? = some p.2 := by rw [kids, List.getElem?_map, hi]; rfl
     have HN := Lib.hid (AtR.go HA2.out (step_pos hf hik))
     have HV2 := Lib.hid hvc
     have HW2 := Lib.hid (kid_size HW.out (List.mem_of_getElem? hik)).1
     obtain ⟨T2, x2, rfl⟩ := V_iface hvc
     clear hg hown hvm hsd hf hi hpt hc1 hvc hik
     go_wp2_with fail
     go_roundw
     case rel => exact ⟨j + 1, p.2, by simp, Lib.hid (by have := HJJ.out; omega), HW2, HV2, HN, HB⟩
     case measure =>
      have := HJJ.out
      simp [intOf]
      omega
   ·have hv1 := HV.out
    rw [V] at hv1
    obtain ⟨uv, cs, rfl, hrow, hok, hvl⟩ := hv1
    obtain ⟨Au, cu, rfl⟩ := own_slice hrow
    have hq1 := asr_list_object (.slice Au l.length cu)
    have hq2 := asr_list_list (.slice Au l.length cu)
    have HROW := Lib.hid hrow
    have HVL := Lib.hid hvl
    have HLL := Lib.hid (own_len hrow)
    clear hrow hvl hok
    have hwl : IntKind.i64.wrap ((l.length : Int) - 1) = (l.length : Int) - 1 := by rw [IntKind.wrap_i64]; have := HLL.out; simp only [maxLen] at this; omega
    have HIX := Lib.hid (indexOf t ((l.length : Int) - 1) (by have := HZT.out; omega) wr)
    have HNO := Lib.hid (fun (h : childF (.arr l) t = -1) (w' : World) (hb : Below wr.heap.size wr w') => AtR.no HA2.out (step_neg h) (below_step HB.out hb) (ok := ok))
    cases hx : idxF t with
    | none =>
     have HN := Lib.hid (HNO.out (by unfold childF; rw [hx]))
     rw [ixR_no hx] at HIX
     clear hx HNO
     go_wp2_with fail
     refine HIX.out.mono ?_
     rintro e w2 ⟨rfl, hb2⟩
     have HB2 := Lib.hid hb2
     clear hb2
     go_wp2_with fail
     go_ret2
     exact HN.out _ HB2.out
    | some n =>
     rw [ixR_yes hx] at HIX
     by_cases hn : n < l.length
     ·have d2 : decide ((n : Int) ≤ (l.length : Int) - 1) = true := decide_eq_true (by omega)
      rw [d2] at HIX
      have hcf : childF (.arr l) t = (n : Int) := by unfold childF; rw [hx]; exact if_pos hn
      have hik : (kids (.arr l))[n]? = some l[n] := by rw [kids, List.getElem?_eq_getElem hn]
      have HN := Lib.hid (AtR.go HA2.out (step_pos hcf hik))
      have HW2 := Lib.hid (kid_size HW.out (List.mem_of_getElem? hik)).1
      obtain ⟨gg, cap, e0, hbg, hcl⟩ := own_cell HROW.out (by omega)
      cases e0
      obtain ⟨ck, hck, hvk⟩ := VL_get HVL.out n l[n] (List.getElem?_eq_getElem hn)
      have HCL := Lib.hid (hcl n _ hck)
      have HVK := Lib.hid hvk
      have p5 : ((0 : Int) ≤ (n : Int)) = True := eq_true (by omega)
      have q5 : ((n : Int) < (l.length : Int)) = True := eq_true (by omega)
      generalize l[n] = u2 at HN HW2 HVK hvk
      obtain ⟨T2, x2, rfl⟩ := V_iface hvk
      clear hx HNO hn hcf hik hck hvk hcl hbg
      go_wp2_with fail
      refine HIX.out.mono ?_
      rintro e w2 ⟨rfl, hb2⟩
      have hx0 := (hb2.cell (World.block_lt_of_cell? wr _ HCL.out)).trans HCL.out
      have HB2 := Lib.hid (below_step HB.out hb2)
      have HV2 := Lib.hid (V_below HVK.out hb2)
      clear hb2
      go_wp2_with fail
      go_roundw
      case rel => exact ⟨j + 1, u2, by simp, Lib.hid (by have := HJJ.out; omega), HW2, HV2, HN, HB2⟩
      case measure =>
       have := HJJ.out
       simp [intOf]
       omega
     ·have d2 : decide ((n : Int) ≤ (l.length : Int) - 1) = false := decide_eq_false (by omega)
      rw [d2] at HIX
      have HN := Lib.hid (HNO.out (by unfold childF; rw [hx]; exact if_neg hn))
      clear hx HNO hn
      go_wp2_with fail
      refine HIX.out.mono ?_
      rintro e w2 ⟨rfl, hb2⟩
      have HB2 := Lib.hid hb2
      clear hb2
      go_wp2_with fail
      go_ret2
      exact HN.out _ HB2.out
   ·have HN := Lib.hid (AtR.no HA2.out hst HB.out (ok := ok))
    clear hst
    go_wp2_with fail
    go_ret2
    exact HN.out
  ·have d1 : decide ((j : Int) < (ts.length : Int)) = false := decide_eq_false (by omega)
   have d1n : decide (j < ts.length) = false := decide_eq_false hj
   have HX := Lib.hid (show atF u ts = some u1 by rw [HA.out, List.drop_of_length_le (by omega), atF])
   obtain ⟨T1, x1, rfl⟩ := V_iface HV.out
   clear hj
   go_wp2_with fail
   go_ret2
   exact ⟨fun u' hu => by rw [HX.out] at hu; injection hu with hu; subst hu; exact ⟨_, rfl, HV.out, HW.out⟩, fun hn => (by rw [HX.out] at hn; cases hn), HB.out⟩
end Go.Proofs.YtndagnkhjlgjgaaGreatDoor.At
namespace Go.Proofs.YtndagnkhjlgjgaaGreatDoor.At
open Go Go.Proofs Go.RowKit YtndagnkhjlgjgaaGreatDoorW.PrintWords YtndagnkhjlgjgaaGreatDoorW.PrintLast Str Tree Read Val Pf Impl Tchs Ptk Go.Proofs.YtndagnkhjlgjgaaGreatDoor
set_option linter.unusedVariables false
set_option linter.unusedSimpArgs false
theorem dec_len : ∀ (n : Nat) (l d : List UInt8), l.length ≤ n → PtPl.dec l = some d → d.length ≤ l.length
 | 0, l, d, hn, h => by
  obtain rfl : l = [] := List.length_eq_zero_iff.1 (by omega)
  rw [PtPl.dec_nil] at h
  injection h with h
  rw [← h]
  exact Nat.le_refl _
 | n + 1, [], d, hn, h => by
  rw [PtPl.dec_nil] at h
  injection h with h
  rw [← h]
  exact Nat.le_refl _
 | n + 1, c :: r, d, hn, h => by
  by_cases hc : c = 126
  ·subst hc
   match r, hn, h with
   | [], hn, h => simp [PtPl.dec] at h
   | e :: q, hn, h =>
    have hq : ∀ x, (PtPl.dec q).map (x :: ·) = some d → d.length ≤ (126 :: e :: q).length := by
     intro x hx
     cases hd : PtPl.dec q with
     | none => rw [hd] at hx; cases hx
     | some y =>
      rw [hd] at hx
      simp only [Option.map_some, Option.some.injEq] at hx
      have := dec_len n q y (by simp at hn; omega) hd
      rw [← hx]
      simp
      omega
    by_cases h0 : e = 48
    ·subst h0; rw [PtPl.dec_0] at h; exact hq _ h
    ·by_cases h1 : e = 49
     ·subst h1; rw [PtPl.dec_1] at h; exact hq _ h
     ·rw [PtPl.dec] at h
      ·rw [if_pos rfl] at h; cases h
      ·intro r e1 e2; injection e2 with e3 _; exact h0 e3
      ·intro r e1 e2; injection e2 with e3 _; exact h1 e3
  ·rw [PtPl.dec_c c r hc] at h
   cases hd : PtPl.dec r with
   | none => rw [hd] at h; cases h
   | some y =>
    rw [hd] at h
    simp only [Option.map_some, Option.some.injEq] at h
    have := dec_len n r y (by simp at hn; omega) hd
    rw [← h]
    simp
    omega
theorem split_each : ∀ l : List UInt8, ∀ p ∈ PtPl.splitL l, p.length ≤ l.length
 | [] => by simp [PtPl.splitL]
 | c :: l => by
  have ih := split_each l
  unfold PtPl.splitL
  split
  ·intro p hp
   rcases List.mem_cons.1 hp with rfl | hp
   ·simp
   ·have := ih p hp; simp; omega
  ·split
   ·intro p hp
    rcases List.mem_cons.1 hp with rfl | hp
    ·simp
    ·cases hp
   ·rename_i h t e
    rw [e] at ih
    intro p hp
    rcases List.mem_cons.1 hp with rfl | hp
    ·have := ih h List.mem_cons_self; simp; omega
    ·have := ih p (List.mem_cons_of_mem _ hp); simp; omega
theorem R_each (m : Nat) : ∀ (ps : List (List UInt8)) (acc : List ByteArray), (∀ p ∈ ps, p.length ≤ m) → (∀ t ∈ acc, t.size ≤ m) → ∀ t ∈ (Tok.R acc ps).1, t.size ≤ m
 | [], acc, _, ha => ha
 | p :: ps, acc, hp, ha => by
  unfold Tok.R
  split
  ·intro t ht; cases ht
  ·rename_i r hr
   refine R_each m ps _ (fun q hq => hp q (List.mem_cons_of_mem _ hq)) (fun t ht => ?_)
   rcases List.mem_append.1 ht with ht | ht
   ·exact ha t ht
   ·obtain rfl := List.mem_singleton.1 ht
    have h1 := dec_len _ p r (Nat.le_refl _) hr
    have h2 := hp p List.mem_cons_self
    show r.toArray.size ≤ m
    rw [List.size_toArray]
    omega
theorem tokF_size (a : ByteArray) : ∀ t ∈ (Tok.tokF a).1, t.size ≤ a.size := by
 unfold Tok.tokF
 split
 ·intro t ht; cases ht
 ·split
  ·refine R_each a.size _ [] (fun p hp => ?_) (fun t ht => by cases ht)
   have h1 := split_each _ p hp
   rw [List.length_drop, size_list] at h1
   omega
  ·intro t ht; cases ht
theorem atF_size : ∀ (ts : List ByteArray) (u u' : T), WF u → atF u ts = some u' → (ctx u').size ≤ (ctx u).size
 | [], u, u', _, h => by
  rw [atF] at h
  injection h with h
  rw [h]
  exact Nat.le_refl _
 | t :: ts, u, u', hw, h => by
  rw [atF] at h
  split at h
  ·rename_i v hv
   have h1 := kid_size hw (step_kid hv)
   exact Nat.le_trans (atF_size ts v u' h1.1 h) (Nat.le_of_lt h1.2)
  ·cases h
set_option maxRecDepth 100000 in
set_option maxHeartbeats 4000000 in
theorem resolveI (s p : ByteArray) (hpl : p.size ≤ 1048576) (w : World) (hT : Lib.Utf8Tabs 1 2 w) (hE : EV w) (hg : 4 < w.heap.size ∧ 2 < w.heap.size) (hp : POW w w) (hgm : GM w) :
  Calls Tryz.prog 9 #[.string s, .string p] w fun e w' => e = .returned (.tuple #[.string (resF s p).1, .int .i64 (resF s p).2]) ∧ Below w.heap.size w w' := by
 have HG := Lib.hid (good s w hT hE hg)
 have HP := Lib.hid hp
 have HPL := Lib.hid hpl
 have HGM := Lib.hid hgm
 clear hT hE hg hp hpl hgm
 go_enter Tryz.func9, Tryz.ntmps9
 go_wp2_with fail
 refine HG.out.mono ?_
 rintro e w1 ⟨hok, hno, hb1⟩
 have HB1 := Lib.hid hb1
 clear hb1
 by_cases h0 : codeF s = 0
 ·obtain ⟨v, rfl, hv⟩ := hok h0
  have HL := Lib.hid (len_of s h0)
  have HV := Lib.hid hv
  have HR := Lib.hid (show resF s p = resP (treeF s) p from if_pos h0)
  obtain ⟨T', x', rfl⟩ := V_iface hv
  clear hok hno hv h0
  go_wp2_with fail
  refine (impl_PtrTokens.calls p (Tok.tokF p).1 (Tok.tokF p).2 w1 (HGM.out.of HB1.out) (Tok.implPtrTokens p (by have := HPL.out; omega))).mono ?_
  rintro e w2 ⟨v0, rfl, hr2, hb2⟩
  have HB2 := Lib.hid (below_step HB1.out hb2)
  have HV2 := Lib.hid (V_below HV.out hb2)
  obtain ⟨A, c, rfl⟩ := Kd.R_slice hr2
  have HC := Lib.hid (Kd.R_reads' hr2)
  have HTL := Lib.hid (Tok.tokF_len p)
  have HTZ := Lib.hid (tokF_size p)
  clear hb2 hr2
  cases hok : (Tok.tokF p).2 with
  | false =>
   have HX := Lib.hid (show resF s p = (⟨#[]⟩, 2) by rw [HR.out]; unfold resP; rw [hok]; rfl)
   clear hok
   go_wp2_with fail
   go_ret2
   rw [HX.out]
   exact ⟨rfl, HB2.out⟩
  | true =>
   have HX := Lib.hid (show resF s p = resG (atF (treeF s) (Tok.tokF p).1) by rw [HR.out]; unfold resP; rw [hok]; rfl)
   clear hok
   go_wp2_with fail
   refine (at_ (treeF s) (treeF_WF s) w2 _ _ HV2.out (Tok.tokF p).1 (by have := HTL.out; have := HPL.out; omega) (fun t ht => by have := HTZ.out t ht; have := HPL.out; omega) A c HC.out.2.2).mono ?_
   rintro e w3 ⟨hyes, hno, hb3⟩
   have HB3 := Lib.hid (below_step HB2.out hb3)
   clear hb3
   cases ha : atF (treeF s) (Tok.tokF p).1 with
   | none =>
    obtain rfl := hno ha
    have HY := Lib.hid (show resF s p = (⟨#[]⟩, 3) by rw [HX.out, ha]; rfl)
    clear ha hyes hno
    go_wp2_with fail
    go_ret2
    rw [HY.out]
    exact ⟨rfl, HB3.out⟩
   | some u' =>
    obtain ⟨v', rfl, hv', hw'⟩ := hyes u' ha
    have HY := Lib.hid (show resF s p = (ctx u', 0) by rw [HX.out, ha]; rfl)
    have hsz : (cts u').length ≤ 1000000 := by
     have h1 := atF_size _ _ _ (treeF_WF s) ha
     have h2 := HL.out
     have h3 := ctx_size u'
     omega
    have HCN := Lib.hid (canon u' hw' hsz w3 _ v' hv' (fun w' h' => HP.out w' (HB3.out.trans (h'.mono HB3.out.size))))
    obtain ⟨T2, x2, rfl⟩ := V_iface hv'
    clear ha hyes hno hv' hw' hsz
    generalize ctx u' = y at HY HCN
    go_wp2_with fail
    refine HCN.out.mono ?_
    rintro e w4 ⟨rfl, hb4⟩
    have HB4 := Lib.hid (below_step HB3.out hb4)
    clear hb4
    go_wp2_with fail
    go_ret2
    rw [HY.out]
    exact ⟨rfl, HB4.out⟩
 ·obtain rfl := hno h0
  have HX := Lib.hid (show resF s p = (⟨#[]⟩, 1) from if_neg h0)
  have d1 : (codeF s != 0) = true := by simpa using h0
  generalize codeF s = c at d1
  clear hok hno h0
  go_wp2_with fail
  go_ret2
  rw [HX.out]
  exact ⟨rfl, HB1.out⟩
set_option maxRecDepth 100000 in
set_option maxHeartbeats 4000000 in
theorem law_resolve (s p : ByteArray) (w : World) (hm : s.size ≤ 140737488351232) (hm2 : p.size ≤ 140737488351232) (hT : Lib.Utf8Tabs 1 2 w) (hE : EV w) (hg : 4 < w.heap.size ∧ 2 < w.heap.size) (hp : POW w w) (hgm : GM w) :
  Calls Tryz.prog 3 #[.string s, .string p] w fun e w' => e = .returned (.bool true) ∧ Below w.heap.size w w' := by
 go_enter Tryz.func3, Tryz.ntmps3
 by_cases h1 : (1048576 : Int) < (s.size : Int)
 ·have d1 : decide ((1048576 : Int) < (s.size : Int)) = true := decide_eq_true h1
  have d1n : decide (1048576 < s.size) = true := decide_eq_true (by omega)
  clear hT hE hg hp hgm
  go_wp2_with fail
  go_ret
  exact ⟨rfl, Below.refl _ _⟩
 have d1 : decide ((1048576 : Int) < (s.size : Int)) = false := decide_eq_false h1
 have d1n : decide (1048576 < s.size) = false := decide_eq_false (by omega)
 by_cases h2 : (1048576 : Int) < (p.size : Int)
 ·have d2 : decide ((1048576 : Int) < (p.size : Int)) = true := decide_eq_true h2
  have d2n : decide (1048576 < p.size) = true := decide_eq_true (by omega)
  clear hT hE hg hp hgm
  go_wp2_with fail
  go_ret
  exact ⟨rfl, Below.refl _ _⟩
 have d2 : decide ((1048576 : Int) < (p.size : Int)) = false := decide_eq_false h2
 have d2n : decide (1048576 < p.size) = false := decide_eq_false (by omega)
 have HPL := Lib.hid (show p.size ≤ 1048576 by omega)
 have HT := Lib.hid hT
 have HE := Lib.hid hE
 have HG := Lib.hid hg
 have HP := Lib.hid hp
 have HGM := Lib.hid hgm
 clear hT hE hg hp hgm h1 h2 hm hm2
 go_wp2_with fail
 refine (resolveS s p HPL.out w).mono ?_
 rintro e w1 ⟨rfl, hb1⟩
 have HB1 := Lib.hid hb1
 have HC := Lib.hid (resolveI s p HPL.out w1 (tabs_tch HT.out (Tch.of_below hb1 (fun _ => False)) (fun h => h) (fun h => h)) (HE.out.tch (Tch.of_below hb1 (fun _ => False)) (fun h => h)) ⟨by have := hb1.size; have := HG.out; omega, by have := hb1.size; have := HG.out; omega⟩ (fun w' h' => HP.out w' (hb1.trans (h'.mono hb1.size))) (HGM.out.of hb1))
 clear hb1
 generalize (resF s p).1 = y at HC ⊢
 generalize (resF s p).2 = c at HC ⊢
 go_wp2_with fail
 refine HC.out.mono ?_
 rintro e w2 ⟨rfl, hb2⟩
 have HB2 := Lib.hid (below_step HB1.out hb2)
 clear hb2 HC
 go_wp2_with fail
 go_ret
 exact ⟨rfl, HB2.out⟩
end Go.Proofs.YtndagnkhjlgjgaaGreatDoor.At
