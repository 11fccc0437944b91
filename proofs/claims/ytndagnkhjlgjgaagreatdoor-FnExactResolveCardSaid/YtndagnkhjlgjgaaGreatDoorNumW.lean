/- The reader of JSON: the contract by hand of number. -/
import Derived.Test.YtndagnkhjlgjgaaGreatDoorNum
import Derived.Lib.AtoiErrMem
namespace Go.Proofs.YtndagnkhjlgjgaaGreatDoor.Read
open Go Go.RowKit YtndagnkhjlgjgaaGreatDoorW.PrintWords Str Tchs Tree
set_option linter.unusedVariables false
set_option linter.unusedSimpArgs false
def EV (w : World) : Prop := ∃ ev, w.cell? ⟨4, 0, none⟩ = some ev ∧ (ev = .nilIface ∨ ∃ te pe, ev = .iface te pe)
theorem EV.tch {w w1 : World} {S : Nat → Prop} (h : EV w) (ht : Tch w w1 S) (hs : ¬ S 4) : EV w1 := by
 obtain ⟨ev, h1, h2⟩ := h
 have hl : 4 < w.heap.size := World.block_lt_of_cell? w _ h1
 refine ⟨ev, ?_, h2⟩
 rw [← h1]
 simp only [World.cell?, ht.kept.2 _ hl hs]
theorem run_all (f : Int → Bool) (s : ByteArray) : ∀ (n p : Nat), s.size - p = n → ∀ i, p ≤ i → i < runF f s p → f (bt s (i : Int)) = true
 | 0, p, hn, i, h1, h2 => by
  rw [runF_at, if_neg (by omega)] at h2
  omega
 | n + 1, p, hn, i, h1, h2 => by
  rw [runF_at] at h2
  rw [if_pos (by omega)] at h2
  by_cases hf : f (bt s (p : Int)) = true
  ·rw [if_pos hf] at h2
   rcases Nat.lt_or_ge p i with h | h
   ·exact run_all f s n (p + 1) (by omega) i h h2
   ·obtain rfl : i = p := by omega
    exact hf
  ·rw [if_neg hf] at h2
   omega
def sgn (s : ByteArray) (p : Nat) : Nat := if isAt s p 45 = true then p + 1 else p
theorem numF_sgn (s : ByteArray) (p : Nat) : numF s p = if sgn s p < s.size ∧ isD (bt s (sgn s p : Int)) = true then some (if bt s (sgn s p : Int) = 48 then sgn s p + 1 else digs s (sgn s p + 1)) else none := by
 unfold numF sgn
 by_cases h : isAt s p 45 = true
 ·rw [if_pos h, if_pos h]
 ·rw [if_neg h, if_neg h]
theorem cut_get (s : ByteArray) (p q i : Nat) (hq : q ≤ s.size) (hi : p + i < q) : ((s.extract p q).data.toList)[i]? = some (s.data.toList[p + i]'(by rw [Array.length_toList]; show p + i < s.size; omega)) := by
 have e : (s.extract p q).data.toList = (s.data.toList.drop p).take (q - p) := by simp
 rw [e, List.getElem?_take, if_pos (by omega), List.getElem?_drop, List.getElem?_eq_getElem]
theorem cut_len (s : ByteArray) (p q : Nat) (hq : q ≤ s.size) : (s.extract p q).data.toList.length = q - p := by
 rw [Array.length_toList]
 show (s.extract p q).size = _
 simp
 omega
theorem bt_list (s : ByteArray) (i : Nat) (h : i < s.size) : bt s (i : Int) = ((s.data.toList[i]'(by rw [Array.length_toList]; exact h)).toNat : Int) := by
 simp [bt, h]
 rfl
theorem cut_dig (s : ByteArray) (a q : Nat) (h1 : a < q) (hq : q ≤ s.size) (hd : ∀ i, a ≤ i → i < q → isD (bt s (i : Int)) = true) (h0 : bt s (a : Int) = 48 → q = a + 1) : NumB (s.extract a q).data.toList := by
 have hl := cut_len s a q hq
 refine ⟨fun e => by rw [e] at hl; simp at hl; omega, fun c hc => ?_, fun h2 he => ?_⟩
 ·obtain ⟨i, hi, hic⟩ := List.getElem_of_mem hc
  have hg := cut_get s a q i hq (by omega)
  rw [List.getElem?_eq_getElem hi] at hg
  have hg := Option.some.inj hg
  rw [hic] at hg
  have hb := bt_list s (a + i) (by omega)
  rw [← hg] at hb
  have := hd (a + i) (by omega) (by omega)
  rw [hb] at this
  unfold isD at this
  unfold digB
  simp only [Bool.and_eq_true, decide_eq_true_eq] at this
  omega
 ·have hg := cut_get s a q 0 hq (by omega)
  rw [List.head?_eq_getElem?, hg] at he
  have hb := bt_list s (a + 0) (by omega)
  rw [Option.some.inj he] at hb
  have : q = a + 1 := h0 hb
  omega
theorem numF_form {s : ByteArray} {p q : Nat} (h : numF s p = some q) : ∃ l, NumB l ∧ ((s.extract p q).data.toList = l ∨ (s.extract p q).data.toList = 45 :: l) := by
 have hle := numF_le h
 rw [numF_sgn] at h
 split at h
 ·rename_i hc
  have hq := Option.some.inj h
  have hr := runF_le isD s (sgn s p + 1)
  unfold digs at hq
  have hnb : NumB (s.extract (sgn s p) q).data.toList := by
   refine cut_dig s (sgn s p) q ?_ hle.2 (fun i h1 h2 => ?_) (fun h48 => ?_)
   ·split at hq <;> omega
   ·rcases Nat.lt_or_ge (sgn s p) i with h3 | h3
    ·split at hq
     ·omega
     ·exact run_all isD s _ (sgn s p + 1) rfl i h3 (by omega)
    ·obtain rfl : i = sgn s p := by omega
     exact hc.2
   ·rw [if_pos h48] at hq
    exact hq.symm
  refine ⟨_, hnb, ?_⟩
  unfold sgn at hnb ⊢
  by_cases h45 : isAt s p 45 = true
  ·rw [if_pos h45]
   right
   have hp := isAt_lt h45
   have e1 : (s.extract p q).data.toList = (s.data.toList.drop p).take (q - p) := by simp
   have e2 : (s.extract (p + 1) q).data.toList = (s.data.toList.drop (p + 1)).take (q - (p + 1)) := by simp
   have hlt : p < s.data.toList.length := by rw [Array.length_toList]; exact hp.1
   have e3 : s.data.toList.drop p = s.data.toList[p] :: s.data.toList.drop (p + 1) := List.drop_eq_getElem_cons hlt
   have e4 : s.data.toList[p] = 45 := by
    have hb := bt_list s p hp.1
    have h45 := hp.2
    rw [hb] at h45
    rw [← UInt8.toNat_inj]
    show _ = 45
    omega
   rw [e1, e2, e3, e4, show q - p = (q - (p + 1)) + 1 by omega, List.take_succ_cons]
  ·rw [if_neg h45]
   exact .inl rfl
 ·cases h
def bigB (x : ByteArray) : Bool := match Lib.parseIntB 64 x.data.toList with
 | .ok _ => false
 | _ => true
theorem num_cases {s : ByteArray} {p q : Nat} (h : numF s p = some q) : (Lib.parseIntB 64 (s.extract p q).data.toList = .ok (numV (s.extract p q)) ∧ bigB (s.extract p q) = false) ∨ (Lib.parseIntB 64 (s.extract p q).data.toList = .range ∧ numV (s.extract p q) = Lib.intSat 64 (s.extract p q).data.toList ∧ bigB (s.extract p q) = true) := by
 obtain ⟨l, hl, he⟩ := numF_form h
 unfold numV bigB
 rcases he with he | he
 ·rw [he, int_pos hl]
  by_cases c : vD 0 l ≤ 9223372036854775807
  ·rw [if_pos c]; exact .inl ⟨rfl, rfl⟩
  ·rw [if_neg c]; exact .inr ⟨rfl, rfl, rfl⟩
 ·rw [he, int_neg hl]
  by_cases c : vD 0 l ≤ 9223372036854775808
  ·rw [if_pos c]; exact .inl ⟨rfl, rfl⟩
  ·rw [if_neg c]; exact .inr ⟨rfl, rfl, rfl⟩
theorem Rdr.flag {w : World} {g : Nat} {s : ByteArray} {p : Nat} {rg tw : Bool} (h : Rdr w g s p rg tw) : Rdr (w.setCell ⟨g, 2, none⟩ (.bool true)) g s p true tw := blk_set h 2 _
theorem Rdr.twin {w : World} {g : Nat} {s : ByteArray} {p : Nat} {rg tw : Bool} (h : Rdr w g s p rg tw) : Rdr (w.setCell ⟨g, 3, none⟩ (.bool true)) g s p rg true := blk_set h 3 _
set_option maxRecDepth 100000 in
set_option maxHeartbeats 8000000 in
theorem number (g : Nat) (s : ByteArray) (p : Nat) (rg tw : Bool) (w : World) (h : Rdr w g s p rg tw) (hp : p ≤ s.size) (hs : s.size ≤ 1048576) (hE : EV w) (hg : 4 < g) :
  Calls Tryz.prog 133 #[.pointer (some ⟨g, 0, none⟩)] w fun e w' => (∀ q, numF s p = some q → e = .returned (.iface 159 (.int .i64 (numV (s.extract p q)))) ∧ Rdr w' g s q (rg || bigB (s.extract p q)) tw) ∧ (numF s p = none → e = .panicked noForm) ∧ Tch w w' (fun k => k = g) := by
 have H := Lib.hid h
 have HE := Lib.hid hE
 obtain ⟨h0, h1, hf⟩ := h.at_
 clear h hE
 go_enter Tryz.func133, Tryz.ntmps133
 go_wp2_with fail
 by_cases hps : p < s.size
 ·refine (peek_ok g s p rg tw _ H.out hps hs).mono ?_
  rintro e w1 ⟨rfl, hb1⟩
  have HR := Lib.hid (Rdr.below H.out hb1)
  have HT := Lib.hid (Tch.of_below hb1 (fun k => k = g))
  clear hb1 h0 h1 hf
  go_upto_if 13 with (fail)
  go_cut [] (fun wc => Hid (Rdr wc g s (sgn s p) rg tw) ∧ Hid (Tch w wc (fun k => k = g)))
  case first =>
   have hb45 : isAt s p 45 = (bt s (p : Int) == 45) := by unfold isAt; rw [decide_eq_true hps, Bool.true_and]; rfl
   by_cases h45 : bt s (p : Int) = 45
   ·have d1 : (bt s (p : Int) == 45) = true := beq_iff_eq.2 h45
    have HS := Lib.hid (show sgn s p = p + 1 from by unfold sgn; rw [hb45, d1]; rfl)
    clear hb45 h45
    obtain ⟨h0, h1, hf⟩ := HR.out.at_
    go_wp2_with fail
    go_meet
    case rel => rw [HS.out]; exact ⟨Lib.hid (Rdr.set HR.out _ _ (by simp)), Lib.hid (Tch.setCell HT.out (p := ⟨g, 1, none⟩) (.inl rfl) _)⟩
   ·have d1 : (bt s (p : Int) == 45) = false := beq_eq_false_iff_ne.2 h45
    have HS := Lib.hid (show sgn s p = p from by unfold sgn; rw [hb45, d1]; rfl)
    clear hb45 h45
    go_wp2_with fail
    go_meet
    case rel => rw [HS.out]; exact ⟨HR, HT⟩
  case rest =>
   clear HR HT
   obtain ⟨HR, HT⟩ := hcut
   have hle : sgn s p ≤ s.size := by
    unfold sgn
    split
    ·exact hps
    ·omega
   have HN := Lib.hid (numF_sgn s p)
   generalize sgn s p = a at HR hle HN
   by_cases has : a < s.size
   ·go_wp2_with fail
    refine (peek_ok g s a rg tw _ HR.out has hs).mono ?_
    rintro e w2 ⟨rfl, hb2⟩
    have HR2 := Lib.hid (Rdr.below HR.out hb2)
    have HT2 := Lib.hid (Tch.below HT.out hb2)
    clear hb2 HR HT
    have hr := bt_range s (a : Int)
    by_cases hlo : bt s (a : Int) < 48
    ·have d1 : decide (bt s (a : Int) < 48) = true := decide_eq_true hlo
     have hE : numF s p = none := by
      rw [HN.out, if_neg]
      intro hc
      have := hc.2
      unfold isD at this
      simp at this
      omega
     have HEE := Lib.hid hE
     clear hE
     go_wp2_with fail
     rw [HEE.out]
     exact ⟨rfl, fun q h => (by cases h), fun _ => rfl, HT2.out⟩
    ·have d1 : decide (bt s (a : Int) < 48) = false := decide_eq_false hlo
     by_cases hhi : 57 < bt s (a : Int)
     ·have d2 : decide (57 < bt s (a : Int)) = true := decide_eq_true hhi
      have hE : numF s p = none := by
       rw [HN.out, if_neg]
       intro hc
       have := hc.2
       unfold isD at this
       simp at this
       omega
      have HEE := Lib.hid hE
      clear hE
      go_wp2_with fail
      rw [HEE.out]
      exact ⟨rfl, fun q h => (by cases h), fun _ => rfl, HT2.out⟩
     ·have d2 : decide (57 < bt s (a : Int)) = false := decide_eq_false hhi
      have hdg : isD (bt s (a : Int)) = true := by unfold isD; simp; omega
      have hN2 := HN.out
      rw [if_pos ⟨has, hdg⟩] at hN2
      have HN2 := Lib.hid hN2
      clear hN2 HN
      obtain ⟨h0, h1, hf⟩ := HR2.out.at_
      go_wp2_with fail
      have HR3 := Lib.hid (Rdr.set HR2.out ((a : Int) + 1) (a + 1) (by simp))
      have HT3 := Lib.hid (Tch.setCell HT2.out (p := ⟨g, 1, none⟩) (.inl rfl) (.int .i64 ((a : Int) + 1)))
      clear h0 h1 hf HR2 HT2
      generalize w2.setCell ⟨g, 1, none⟩ (.int .i64 ((a : Int) + 1)) = w3 at HR3 HT3 ⊢
      clear d1 d2 hlo hhi
      go_loopw [] (fun wr => ∃ q : Nat, Hid (a < q ∧ q ≤ s.size ∧ (bt s (a : Int) = 48 → q = a + 1) ∧ (bt s (a : Int) ≠ 48 → digs s q = digs s (a + 1))) ∧ Hid (Rdr wr g s q rg tw) ∧ Hid (Tch w wr (fun k => k = g))) (fun wr => s.size - posAt wr g)
      case atStart => exact ⟨a + 1, Lib.hid ⟨by omega, by omega, fun _ => rfl, fun _ => rfl⟩, HR3, HT3⟩
      case round =>
       clear HR3 HT3
       obtain ⟨q, HI, HR, HT⟩ := hrel
       have HRQ := HR
       go_upto_region 8 with (fail)
       go_cut [75] (fun v75 wc => ∃ b : Bool, v75 = .bool b ∧ Hid (b = true → bt s (a : Int) ≠ 48 ∧ q < s.size ∧ digs s (q + 1) = digs s (a + 1)) ∧ Hid (b = false → numF s p = some q) ∧ Hid (Rdr wc g s q rg tw) ∧ Hid (Tch w wc (fun k => k = g)))
       case first =>
        obtain ⟨hq0, hq, hz, hnz⟩ := HI.out
        obtain ⟨h0, h1, hf⟩ := HR.out.at_
        by_cases h48 : bt s (a : Int) = 48
        ·have d1 : (bt s (a : Int) != 48) = false := by rw [h48]; rfl
         have HQ := Lib.hid (show numF s p = some q from by rw [HN2.out, if_pos h48, hz h48])
         clear hz hnz h48
         go_wp2_with fail
         go_quiet (fail)
         go_wp2_with fail
         go_meet
         case rel => exact ⟨false, rfl, Lib.hid (fun h => by cases h), Lib.hid (fun _ => HQ.out), Lib.hid (HR.out.drewN _), Lib.hid (HT.out.drewN _)⟩
        ·have d1 : (bt s (a : Int) != 48) = true := bne_iff_ne.2 h48
         have HNE := Lib.hid h48
         by_cases hi : q < s.size
         ·have d2 : decide ((q : Int) < (s.size : Int)) = true := decide_eq_true (by omega)
          have d2n : decide (q < s.size) = true := decide_eq_true hi
          have HI2 := Lib.hid hi
          have hb0 : (0 : Int) ≤ (q : Int) := by omega
          have hb1 : (q : Int) < (s.size : Int) := by omega
          have hbt : bt s (q : Int) = ((s[q]'hi).toNat : Int) := by simp [bt, hi]
          by_cases hlo : 48 ≤ ((s[q]'hi).toNat : Int)
          ·have d3 : decide (48 ≤ ((s[q]'hi).toNat : Int)) = true := decide_eq_true hlo
           by_cases hhi : ((s[q]'hi).toNat : Int) ≤ 57
           ·have d4 : decide (((s[q]'hi).toNat : Int) ≤ 57) = true := decide_eq_true hhi
            have HS := Lib.hid (show digs s (q + 1) = digs s (a + 1) from by
             rw [← hnz h48]
             unfold digs
             conv => rhs; rw [runF_at, if_pos hi, if_pos (by unfold isD; rw [hbt]; simp; omega)])
            clear hz hnz h48
            go_wp2_with fail
            go_quiet (fail)
            go_wp2_with fail
            go_meet
            case rel => exact ⟨true, rfl, Lib.hid (fun _ => ⟨HNE.out, HI2.out, HS.out⟩), Lib.hid (fun h => by cases h), Lib.hid (HR.out.drewN _), Lib.hid (HT.out.drewN _)⟩
           ·have d4 : decide (((s[q]'hi).toNat : Int) ≤ 57) = false := decide_eq_false hhi
            have HQ := Lib.hid (show numF s p = some q from by rw [HN2.out, if_neg h48, ← hnz h48]; unfold digs; rw [runF_at, if_pos hi, if_neg (by unfold isD; rw [hbt]; simp; omega)])
            clear hz hnz h48
            go_wp2_with fail
            go_quiet (fail)
            go_wp2_with fail
            go_meet
            case rel => exact ⟨false, rfl, Lib.hid (fun h => by cases h), Lib.hid (fun _ => HQ.out), Lib.hid (HR.out.drewN _), Lib.hid (HT.out.drewN _)⟩
          ·have d3 : decide (48 ≤ ((s[q]'hi).toNat : Int)) = false := decide_eq_false hlo
           have HQ := Lib.hid (show numF s p = some q from by rw [HN2.out, if_neg h48, ← hnz h48]; unfold digs; rw [runF_at, if_pos hi, if_neg (by unfold isD; rw [hbt]; simp; omega)])
           clear hz hnz h48
           go_wp2_with fail
           go_quiet (fail)
           go_wp2_with fail
           go_meet
           case rel => exact ⟨false, rfl, Lib.hid (fun h => by cases h), Lib.hid (fun _ => HQ.out), Lib.hid (HR.out.drewN _), Lib.hid (HT.out.drewN _)⟩
         ·have d2 : decide ((q : Int) < (s.size : Int)) = false := decide_eq_false (by omega)
          have d2n : decide (q < s.size) = false := decide_eq_false hi
          have HQ := Lib.hid (show numF s p = some q from by rw [HN2.out, if_neg h48, ← hnz h48]; unfold digs; rw [runF_at, if_neg hi])
          clear hz hnz h48
          go_wp2_with fail
          go_quiet (fail)
          go_wp2_with fail
          go_meet
          case rel => exact ⟨false, rfl, Lib.hid (fun h => by cases h), Lib.hid (fun _ => HQ.out), Lib.hid (HR.out.drewN _), Lib.hid (HT.out.drewN _)⟩
       case rest =>
        clear HR HT
        obtain ⟨b, rfl, HC, HQ, HR, HT⟩ := hcut
        obtain ⟨hq0, hq, hz, hnz⟩ := HI.out
        obtain ⟨h0, h1, hf⟩ := HR.out.at_
        cases b with
        | true =>
         obtain ⟨g1, g2, g3⟩ := HC.out rfl
         have HC2 := Lib.hid (show a < q + 1 ∧ q + 1 ≤ s.size ∧ (bt s (a : Int) = 48 → q + 1 = a + 1) ∧ (bt s (a : Int) ≠ 48 → digs s (q + 1) = digs s (a + 1)) from ⟨by omega, by omega, fun h => absurd h g1, fun _ => g3⟩)
         clear hz hnz g1 g3 HC HQ
         go_wp2_with fail
         go_roundw
         case rel => exact ⟨q + 1, HC2, Lib.hid (Rdr.set HR.out _ _ (by simp)), Lib.hid (Tch.setCell HT.out (p := ⟨g, 1, none⟩) (.inl rfl) _)⟩
         case measure =>
          rw [posAt_is HRQ.out, posAt_is (Rdr.set HR.out _ (q + 1) (by simp))]
          omega
        | false =>
         have hNF := HQ.out rfl
         have hle2 := numF_le hNF
         have hcs := num_cases hNF
         have HNF := Lib.hid hNF
         have HEw := Lib.hid (EV.tch HE.out HT.out (by omega))
         clear hz hnz HC HQ hNF
         have hx0 : (0 : Int) ≤ (p : Int) := by omega
         have hx1 : (p : Int) ≤ (q : Int) := by omega
         have hx2 : (q : Int) ≤ (s.size : Int) := by omega
         have hxz : (s.extract p q).size ≤ 9223372036854775806 := by simp; omega
         have hxl : (s.extract p q).size ≤ 281474976710656 := by simp; omega
         rcases hcs with ⟨hc1, hc2⟩ | ⟨hc1, hc2, hc3⟩
         ·have hP : ∀ W : World, W.heap = wc.heap → Calls Tryz.prog 166 #[.string (s.extract p q), .int .i64 10, .int .i64 64] W fun e w' => e = .returned (.tuple #[.int .i64 (numV (s.extract p q)), .nilIface]) ∧ Below W.heap.size W w' := fun W _ => (Tryz.strconv_ParseInt_10_at64_ok (s.extract p q) hxz _ hc1 W).mono fun e w' ⟨h1, h2⟩ => ⟨h1, by rcases h2 with rfl | ⟨t, rfl⟩; exact Below.refl _ _; exact Lib.bytesWorld_below _ _ _⟩
          have HB2 := Lib.hid hc2
          clear hc1 hc2 hxz hxl HEw
          go_wp2_with fail
          go_region_held3 (fun w' => w'.cell? ⟨g, 0, none⟩ = some (.string s) ∧ w'.cell? ⟨g, 1, none⟩ = some (.int .i64 (q : Int))) (first | exact ⟨h0, h1⟩ | go_keep | exact ⟨HR6.out.at_.1, HR6.out.at_.2.1⟩) (first | (go_at_call 166; refine (hP wc.drew rfl).mono ?_; rintro e w6 ⟨rfl, hb6⟩; have HR6 := Lib.hid (Rdr.below (Rdr.drew HR.out) hb6); have HT6 := Lib.hid (Tch.below (Tch.drew HT.out) hb6); clear hb6))
          go_wp2_with fail
          go_ret
          rw [HNF.out]
          exact ⟨fun q' h => by cases h; exact ⟨rfl, by rw [HB2.out, Bool.or_false]; exact HR6.out⟩, fun h => (by cases h), HT6.out⟩
         ·obtain ⟨ev, hv1, hv2⟩ := HEw.out
          have hP : ∀ W : World, W.heap = wc.heap → Calls Tryz.prog 166 #[.string (s.extract p q), .int .i64 10, .int .i64 64] W fun e w' => ∃ N T, e = .returned (.tuple #[.int .i64 (numV (s.extract p q)), .iface T (.pointer (some ⟨N, 0, none⟩))]) ∧ Below W.heap.size W w' := fun W hW => (Tryz.strconv_ParseInt_10_at64_range (s.extract p q) hxl hc1 ev W (by rw [← hv1]; simp only [World.cell?, hW]) hv2).mono fun e w' ⟨N, h1, h2, h3, h4⟩ => ⟨N, _, by rw [hc2]; exact h1, h4⟩
          have HB2 := Lib.hid hc3
          clear hc1 hc2 hc3 hxz hxl HEw hv1 hv2
          go_wp2_with fail
          go_region_held3 (fun w' => w'.cell? ⟨g, 0, none⟩ = some (.string s) ∧ w'.cell? ⟨g, 1, none⟩ = some (.int .i64 (q : Int))) (first | exact ⟨h0, h1⟩ | go_keep | exact ⟨HR6.out.at_.1, HR6.out.at_.2.1⟩) (first | (go_at_call 166; refine (hP wc.drew rfl).mono ?_; rintro e w6 ⟨N, T, rfl, hb6⟩; have HR6 := Lib.hid (Rdr.below (Rdr.drew HR.out) hb6); have HT6 := Lib.hid (Tch.below (Tch.drew HT.out) hb6); clear hb6))
          have r2 := blk_cell (show w6.heap[g]? = _ from HR6.out) 2
          have f2 := blk_frozen (show w6.heap[g]? = _ from HR6.out) 2
          simp only [List.getElem?_toArray, List.getElem?_cons_zero, List.getElem?_cons_succ] at r2
          go_wp2_with fail
          go_ret
          rw [HNF.out]
          exact ⟨fun q' h => by cases h; exact ⟨rfl, by rw [HB2.out, Bool.or_true]; exact HR6.out.flag⟩, fun h => (by cases h), Tch.setCell HT6.out (p := ⟨g, 2, none⟩) (.inl rfl) _⟩
   ·go_wp2_with fail
    refine (peek_no g s a rg tw _ HR.out (by omega) hs).mono ?_
    rintro e w2 ⟨rfl, hb2⟩
    have hE : numF s p = none := by
     rw [HN.out, if_neg]
     intro hc
     exact has hc.1
    have HT2 := Lib.hid (Tch.below HT.out hb2)
    clear hb2
    go_wp2_with fail
    rw [hE]
    exact ⟨rfl, fun q h => (by cases h), fun _ => rfl, HT2.out⟩
 ·refine (peek_no g s p rg tw _ H.out (by omega) hs).mono ?_
  rintro e w1 ⟨rfl, hb1⟩
  have hE : numF s p = none := by
   unfold numF isAt
   rw [decide_eq_false hps]
   simp [hps]
  have HT := Lib.hid (Tch.of_below hb1 (fun k => k = g))
  clear hb1 h0 h1 hf
  go_wp2_with fail
  rw [hE]
  exact ⟨rfl, fun q h => (by cases h), fun _ => rfl, HT.out⟩
end Go.Proofs.YtndagnkhjlgjgaaGreatDoor.Read
