/- The printed l1Parts and l1Within of the reference's side at a canonical text. Plain. -/
import Derived.Test.YtndagnkhjlgjgaaGreatDoorPfV
namespace Go.Proofs.YtndagnkhjlgjgaaGreatDoor.Pf
open Go Go.RowKit YtndagnkhjlgjgaaGreatDoorW.PrintWords Str Tree Read PJt Own
set_option linter.unusedVariables false
set_option linter.unusedSimpArgs false
def prtL : Nat → List T → List Prt
 | _, [] => []
 | n, t :: l => ⟨decB n, ctx t⟩ :: prtL (n + 1) l
def prtM (l : List (ByteArray × T)) : List Prt := l.map fun x => ⟨x.1, ctx x.2⟩
def prts : T → List Prt
 | .arr l => prtL 0 l
 | .obj l => prtM l
 | _ => []
theorem cut_at {s : ByteArray} {i : Nat} {l e : List Int} (h : At s i (l ++ e)) : s.extract i (i + l.length) = strOfNums l := by
 have h1 := (At.app h).1
 have hb := bytes_cut s i l.length h1.le
 rw [At.btsL h1] at hb
 have h2 : byt (s.extract i (i + l.length)) = l := hb
 have h3 : strOfNums (byt (s.extract i (i + l.length))) = strOfNums l := by rw [h2]
 rw [← h3, str_byt]
theorem at0 {s : ByteArray} {c : Int} {l : List Int} (h : At s 0 (c :: l)) : bt s 0 = c := h.2.1
theorem cts_pos (t : T) (hw : WF t) : 1 ≤ (cts t).length := by
 cases t with
 | nul => rw [cts]; simp
 | tru => rw [cts]; simp
 | fls => rw [cts]; simp
 | num x =>
  rw [WF] at hw
  obtain ⟨n, rfl⟩ := hw
  rw [cts]
  have := numT_ne n
  cases h : byt (numT n) with
  | nil => exact absurd h this
  | cons a b => simp
 | str b => rw [cts, quo_len]; omega
 | arr l => rw [cts]; simp
 | obj l => rw [cts]; simp
theorem ctsL_len : ∀ l : List T, WFL l → l.length ≤ (ctsL l).length
 | [], _ => by simp
 | t :: l, h => by
  rw [WFL] at h
  have := ctsL_len l h.2
  rw [ctsL]
  simp only [List.length_cons, List.length_append]
  omega
theorem ctsM_len : ∀ l : List (ByteArray × T), WFM l → l.length ≤ (ctsM l).length
 | [], _ => by simp
 | (k, t) :: l, h => by
  rw [WFM] at h
  have := ctsM_len l h.2.2
  rw [ctsM]
  simp only [List.length_cons, List.length_append]
  omega
section
variable [Inhabited Rec]
theorem parts_arr (s : ByteArray) (hs : s.size ≤ 1000000) (h0 : 0 < s.size) (hb0 : bt s 0 = 91) (HS : ∀ i : Nat, i ≤ s.size → spec_l1String.f s (i : Int) = some (strOfNums (strXF s i).1, ((strXF s i).2.1 : Int), (strXF s i).2.2))
  (HD : ∀ n : Nat, n ≤ 1000000000 → spec_l1Dec.f (n : Int) = some (decB n)) :
  ∀ (l : List T) (i k : Nat) (acc : List Prt), WFL l → (l = [] → s.size ≤ i + 1 ∧ i ≤ s.size) → (l ≠ [] → At s i ((ctsL l).drop 1 ++ [93]) ∧ i + ((ctsL l).drop 1).length + 1 = s.size) → acc.length + l.length ≤ 1000000 → l.length + 5 * s.size + 30 ≤ k →
   spec_l1Parts.l0 k s acc (i : Int) = some (acc ++ prtL acc.length l)
 | [], i, k, acc, hw, hn, hc, ha, hk => by
  obtain ⟨k, rfl⟩ : ∃ j, k = j + 1 := ⟨k - 1, by omega⟩
  have := hn rfl
  have HW := Lib.hid (show wrap64 ((s.size : Int) - 1) = (s.size : Int) - 1 from w64 (by omega) (by omega))
  rw [spec_l1Parts.l0, HW.out, if_neg (by omega), prtL, List.append_nil]
 | t :: l, i, k, acc, hw, hn, hc, ha, hk => by
  obtain ⟨k, rfl⟩ : ∃ j, k = j + 1 := ⟨k - 1, by omega⟩
  obtain ⟨hat, hsz⟩ := hc (by simp)
  rw [WFL] at hw
  rw [ctsL_drop] at hat hsz
  have hp := cts_pos t hw.1
  rw [List.length_append] at hsz
  have hat2 : At s i (cts t ++ (ctsL l ++ [93])) := by rw [← List.append_assoc]; exact hat
  have hnx := (At.app hat2).2
  have hT : isT s (i + (cts t).length) = true := by
   cases l with
   | nil =>
    have h2 : At s (i + (cts t).length) (93 :: []) := by simpa [ctsL] using hnx
    unfold isT
    rw [h2.2.1]
    simp
   | cons t2 l2 =>
    rw [ctsL] at hnx
    have h2 : At s (i + (cts t).length) (44 :: ((cts t2 ++ ctsL l2) ++ [93])) := hnx
    unfold isT
    rw [h2.2.1]
    simp
  have hend := end_out s t hw.1 i _ hat2 hT
  have hcut := cut_at hat2
  have HW := Lib.hid (show wrap64 ((s.size : Int) - 1) = (s.size : Int) - 1 from w64 (by omega) (by omega))
  have HW2 := Lib.hid (show wrap64 (((i + (cts t).length : Nat) : Int) + 1) = ((i + (cts t).length + 1 : Nat) : Int) from by rw [w64 (by omega) (by omega)]; omega)
  have hll : (ctsL l).length ≥ 0 := Nat.zero_le _
  have ha2 : acc.length + (l.length + 1) ≤ 1000000 := by simpa using ha
  have hk2 : (l.length + 1) + 5 * s.size + 30 ≤ k + 1 := by simpa using hk
  rw [spec_l1Parts.l0, HW.out, if_pos (by omega), HD _ (by omega), Option.bind_some, if_pos (by omega), if_neg (by rw [hb0]; decide), end_f s hs HS i k (by rw [hend]; omega) (by omega) (by omega), Option.bind_some, hend, if_pos (by omega), if_pos (by omega), if_pos (by omega), if_pos (by omega), HW2.out, Int.toNat_natCast, Int.toNat_natCast, hcut]
  have ih := parts_arr s hs h0 hb0 HS HD l (i + (cts t).length + 1) k (acc ++ [(⟨decB acc.length, strOfNums (cts t)⟩ : Prt)]) hw.2 (fun e => by subst e; simp [ctsL] at hsz; omega) (fun e => by
   cases l with
   | nil => exact absurd rfl e
   | cons t2 l2 =>
    rw [ctsL_drop]
    rw [ctsL] at hnx hsz
    have h2 : At s (i + (cts t).length) (44 :: ((cts t2 ++ ctsL l2) ++ [93])) := hnx
    refine ⟨h2.2.2, ?_⟩
    simp only [List.length_cons, List.length_append] at hsz ⊢
    omega) (by rw [List.length_append]; simp; omega) (by omega)
  rw [ih, prtL, List.length_append, List.append_assoc]
  rfl
theorem parts_obj (s : ByteArray) (hs : s.size ≤ 1000000) (h0 : 0 < s.size) (hb0 : bt s 0 = 123) (HS : ∀ i : Nat, i ≤ s.size → spec_l1String.f s (i : Int) = some (strOfNums (strXF s i).1, ((strXF s i).2.1 : Int), (strXF s i).2.2))
  (HD : ∀ n : Nat, n ≤ 1000000000 → spec_l1Dec.f (n : Int) = some (decB n)) :
  ∀ (l : List (ByteArray × T)) (i k : Nat) (acc : List Prt), WFM l → (l = [] → s.size ≤ i + 1 ∧ i ≤ s.size) → (l ≠ [] → At s i ((ctsM l).drop 1 ++ [125]) ∧ i + ((ctsM l).drop 1).length + 1 = s.size) → acc.length + l.length ≤ 1000000 → l.length + 5 * s.size + 30 ≤ k →
   spec_l1Parts.l0 k s acc (i : Int) = some (acc ++ prtM l)
 | [], i, k, acc, hw, hn, hc, ha, hk => by
  obtain ⟨k, rfl⟩ : ∃ j, k = j + 1 := ⟨k - 1, by omega⟩
  have := hn rfl
  have HW := Lib.hid (show wrap64 ((s.size : Int) - 1) = (s.size : Int) - 1 from w64 (by omega) (by omega))
  rw [spec_l1Parts.l0, HW.out, if_neg (by omega)]
  unfold prtM
  rw [List.map_nil, List.append_nil]
 | (key, t) :: l, i, k, acc, hw, hn, hc, ha, hk => by
  obtain ⟨k, rfl⟩ : ∃ j, k = j + 1 := ⟨k - 1, by omega⟩
  obtain ⟨hat, hsz⟩ := hc (by simp)
  rw [WFM] at hw
  obtain ⟨hkey, hwt, hwl⟩ := hw
  rw [ctsM_drop] at hat hsz
  have hp := cts_pos t hwt
  simp only [List.length_append, List.length_cons] at hsz
  have hat0 : At s i (quo key ++ (58 :: (cts t ++ (ctsM l ++ [125])))) := by
   have e : quo key ++ 58 :: (cts t ++ ctsM l) ++ [125] = quo key ++ (58 :: (cts t ++ (ctsM l ++ [125]))) := by simp [List.append_assoc]
   rw [← e]; exact hat
  have hstr := strXF_quo key hkey s i _ hat0
  have hat1 : At s (i + (quo key).length) (58 :: (cts t ++ (ctsM l ++ [125]))) := (At.app hat0).2
  have hat2 : At s (i + (quo key).length + 1) (cts t ++ (ctsM l ++ [125])) := hat1.2.2
  have hnx := (At.app hat2).2
  generalize hq : i + (quo key).length + 1 = q at hat2 hnx
  have hT : isT s (q + (cts t).length) = true := by
   cases l with
   | nil =>
    have h2 : At s (q + (cts t).length) (125 :: []) := by simpa [ctsM] using hnx
    unfold isT
    rw [h2.2.1]
    simp
   | cons t2 l2 =>
    obtain ⟨k2, t2⟩ := t2
    rw [ctsM] at hnx
    have h2 : At s (q + (cts t).length) (44 :: ((quo k2 ++ 58 :: (cts t2 ++ ctsM l2)) ++ [125])) := hnx
    unfold isT
    rw [h2.2.1]
    simp
  have hend := end_out s t hwt q _ hat2 hT
  have hcut := cut_at hat2
  have HW := Lib.hid (show wrap64 ((s.size : Int) - 1) = (s.size : Int) - 1 from w64 (by omega) (by omega))
  have HW2 := Lib.hid (show wrap64 (((q + (cts t).length : Nat) : Int) + 1) = ((q + (cts t).length + 1 : Nat) : Int) from by rw [w64 (by omega) (by omega)]; omega)
  have HW3 := Lib.hid (show wrap64 (((i + (quo key).length : Nat) : Int) + 1) = (q : Int) from by rw [w64 (by omega) (by omega)]; omega)
  have ha2 : acc.length + (l.length + 1) ≤ 1000000 := by simpa using ha
  have hk2 : (l.length + 1) + 5 * s.size + 30 ≤ k + 1 := by simpa using hk
  rw [spec_l1Parts.l0, HW.out, if_pos (by omega), HD _ (by omega), Option.bind_some, if_pos (by omega), if_pos hb0, HS i (by omega), Option.bind_some, hstr]
  simp only
  rw [HW3.out, end_f s hs HS q k (by rw [hend]; omega) (by omega) (by omega), Option.bind_some, hend, if_pos (by omega), if_pos (by omega), if_pos (by omega), if_pos (by omega), HW2.out, Int.toNat_natCast, Int.toNat_natCast, hcut, str_byt]
  have ih := parts_obj s hs h0 hb0 HS HD l (q + (cts t).length + 1) k (acc ++ [(⟨key, strOfNums (cts t)⟩ : Prt)]) hwl (fun e => by subst e; simp [ctsM] at hsz; omega) (fun e => by
   cases l with
   | nil => exact absurd rfl e
   | cons t2 l2 =>
    obtain ⟨k2, t2⟩ := t2
    rw [ctsM_drop]
    rw [ctsM] at hnx hsz
    have h2 : At s (q + (cts t).length) (44 :: ((quo k2 ++ 58 :: (cts t2 ++ ctsM l2)) ++ [125])) := hnx
    refine ⟨h2.2.2, ?_⟩
    simp only [List.length_cons, List.length_append] at hsz ⊢
    omega) (by rw [List.length_append]; simp; omega) (by omega)
  rw [ih, List.append_assoc]
  rfl
theorem parts_f (t : T) (hw : WF t) (hs : (ctx t).size ≤ 900000) (HS : ∀ i : Nat, i ≤ (ctx t).size → spec_l1String.f (ctx t) (i : Int) = some (strOfNums (strXF (ctx t) i).1, ((strXF (ctx t) i).2.1 : Int), (strXF (ctx t) i).2.2))
  (HD : ∀ n : Nat, n ≤ 1000000000 → spec_l1Dec.f (n : Int) = some (decB n)) (k : Nat) (hk : 7 * (ctx t).size + 50 ≤ k) : spec_l1Parts.f k (ctx t) = some (prts t) := by
 have hat := ctx_at t
 have hz := ctx_size t
 have hp := cts_pos t hw
 obtain ⟨k, rfl⟩ : ∃ j, k = j + 1 := ⟨k - 1, by omega⟩
 unfold spec_l1Parts.f
 rw [Option.bind_some, if_pos (by omega)]
 have other : (bt (ctx t) 0 ≠ 91) → (bt (ctx t) 0 ≠ 123) → prts t = [] → (if bt (ctx t) 0 = 91 then spec_l1Parts.j0 (k + 1) (ctx t) [] false else spec_l1Parts.j0 (k + 1) (ctx t) [] (bt (ctx t) 0 != 123)) = some (prts t) := by
  intro h1 h2 h3
  rw [if_neg h1, show (bt (ctx t) 0 != 123) = true by simp [h2], spec_l1Parts.j0, if_pos rfl, h3]
 cases t with
 | arr l =>
  rw [WF] at hw
  rw [cts] at hat hz
  have h1 : bt (ctx (.arr l)) 0 = 91 := hat.2.1
  have h2 : At (ctx (.arr l)) 1 ((ctsL l).drop 1 ++ [93]) := hat.2.2
  simp only [List.length_cons, List.length_append, List.length_nil] at hz
  have hll := ctsL_len l hw
  have hdl : (ctsL l).length ≤ ((ctsL l).drop 1).length + 1 := by rw [List.length_drop]; omega
  rw [if_pos h1, spec_l1Parts.j0, if_neg (by simp)]
  have := parts_arr (ctx (.arr l)) (by omega) (by omega) h1 HS HD l 1 k [] hw (fun e => by subst e; simp [ctsL] at hz; omega) (fun e => ⟨h2, by omega⟩) (by simp; omega) (by omega)
  simpa [prts] using this
 | obj l =>
  rw [WF] at hw
  rw [cts] at hat hz
  have h1 : bt (ctx (.obj l)) 0 = 123 := hat.2.1
  have h2 : At (ctx (.obj l)) 1 ((ctsM l).drop 1 ++ [125]) := hat.2.2
  simp only [List.length_cons, List.length_append, List.length_nil] at hz
  have hll := ctsM_len l hw.1
  have hdl : (ctsM l).length ≤ ((ctsM l).drop 1).length + 1 := by rw [List.length_drop]; omega
  rw [if_neg (by rw [h1]; decide), h1, show ((123 : Int) != 123) = false from rfl, spec_l1Parts.j0, if_neg (by simp)]
  have := parts_obj (ctx (.obj l)) (by omega) (by omega) h1 HS HD l 1 k [] hw.1 (fun e => by subst e; simp [ctsM] at hz; omega) (fun e => ⟨h2, by omega⟩) (by simp; omega) (by omega)
  simpa [prts] using this
 | nul => rw [cts] at hat; exact other (by rw [at0 hat]; decide) (by rw [at0 hat]; decide) rfl
 | tru => rw [cts] at hat; exact other (by rw [at0 hat]; decide) (by rw [at0 hat]; decide) rfl
 | fls => rw [cts] at hat; exact other (by rw [at0 hat]; decide) (by rw [at0 hat]; decide) rfl
 | str b =>
  rw [cts] at hat
  have hat : At (ctx (.str b)) 0 (34 :: ((byt b).flatMap escI ++ [34])) := hat
  exact other (by rw [at0 hat]; decide) (by rw [at0 hat]; decide) rfl
 | num x =>
  rw [WF] at hw
  obtain ⟨n, rfl⟩ := hw
  rw [cts] at hat
  cases h : byt (numT n) with
  | nil => exact absurd h (numT_ne n)
  | cons a r =>
   rw [h] at hat
   have ha := numT_plain n a (by rw [h]; simp)
   unfold plainB at ha
   exact other (by rw [at0 hat]; omega) (by rw [at0 hat]; omega) rfl
end
end Go.Proofs.YtndagnkhjlgjgaaGreatDoor.Pf
namespace Go.Proofs.YtndagnkhjlgjgaaGreatDoor.Pf
open Go Go.RowKit YtndagnkhjlgjgaaGreatDoorW.PrintWords Str Tree Read PJt Own
set_option linter.unusedVariables false
set_option linter.unusedSimpArgs false
def kids : T → List T
 | .arr l => l
 | .obj l => l.map Prod.snd
 | _ => []
theorem depM_kids : ∀ l : List (ByteArray × T), depM l = depL (l.map Prod.snd)
 | [] => by rw [depM]; rfl
 | (k, t) :: l => by rw [depM, List.map_cons, depL, depM_kids l]
theorem cntM_kids : ∀ l : List (ByteArray × T), cntM l = cntL (l.map Prod.snd)
 | [] => by rw [cntM]; rfl
 | (k, t) :: l => by rw [cntM, List.map_cons, cntL, cntM_kids l]
theorem dep_kids (t : T) : dep t = depL (kids t) + 1 := by
 cases t <;> rw [dep, kids] <;> simp [depL, depM_kids]
theorem cnt_kids (t : T) : cnt t = cntL (kids t) + 1 := by
 cases t <;> rw [cnt, kids] <;> simp [cntL, cntM_kids]
theorem depL_nil : depL [] = 0 := by rw [depL]
theorem depL_cons (x : T) (l : List T) : depL (x :: l) = max (dep x) (depL l) := by rw [depL]
theorem cntL_nil : cntL [] = 0 := by rw [cntL]
theorem cntL_cons (x : T) (l : List T) : cntL (x :: l) = cnt x + cntL l := by rw [cntL]
theorem depL_snoc : ∀ (l : List T) (t : T), depL (l ++ [t]) = max (depL l) (dep t)
 | [], t => by rw [List.nil_append, depL_cons, depL_nil]; omega
 | x :: l, t => by rw [List.cons_append, depL_cons, depL_cons, depL_snoc l t]; omega
theorem cntL_snoc : ∀ (l : List T) (t : T), cntL (l ++ [t]) = cntL l + cnt t
 | [], t => by rw [List.nil_append, cntL_cons, cntL_nil]; omega
 | x :: l, t => by rw [List.cons_append, cntL_cons, cntL_cons, cntL_snoc l t]; omega
theorem depL_take (l : List T) (k : Nat) : depL (l.take k) ≤ depL l := by
 induction l generalizing k with
 | nil => simp
 | cons x l ih =>
  cases k with
  | zero => simp [depL]
  | succ k => rw [List.take_succ_cons, depL, depL]; have := ih k; omega
theorem cntL_take (l : List T) (k : Nat) : cntL (l.take k) ≤ cntL l := by
 induction l generalizing k with
 | nil => simp
 | cons x l ih =>
  cases k with
  | zero => simp [cntL]
  | succ k => rw [List.take_succ_cons, cntL, cntL]; have := ih k; omega
mutual
theorem dep_cnt : ∀ t, dep t ≤ cnt t
 | .nul => by rw [dep, cnt] <;> simp
 | .tru => by rw [dep, cnt] <;> simp
 | .fls => by rw [dep, cnt] <;> simp
 | .num x => by rw [dep, cnt] <;> simp
 | .str b => by rw [dep, cnt] <;> simp
 | .arr l => by rw [dep, cnt]; have := depL_cnt l; omega
 | .obj l => by rw [dep, cnt]; have := depM_cnt l; omega
theorem depL_cnt : ∀ l, depL l ≤ cntL l
 | [] => by rw [depL, cntL]; omega
 | t :: l => by rw [depL, cntL]; have := dep_cnt t; have := depL_cnt l; omega
theorem depM_cnt : ∀ l, depM l ≤ cntM l
 | [] => by rw [depM, cntM]; omega
 | (k, t) :: l => by rw [depM, cntM]; have := dep_cnt t; have := depM_cnt l; omega
end
mutual
theorem cnt_len : ∀ t, WF t → cnt t ≤ (cts t).length
 | .nul, _ => by rw [cnt, cts] <;> simp
 | .tru, _ => by rw [cnt, cts] <;> simp
 | .fls, _ => by rw [cnt, cts] <;> simp
 | .num x, h => by have := cts_pos _ h; rw [cnt] <;> first | omega | simp
 | .str b, h => by have := cts_pos _ h; rw [cnt] <;> first | omega | simp
 | .arr l, h => by
  rw [WF] at h
  have := cntL_len l h
  rw [cnt, cts]
  simp only [List.length_cons, List.length_append, List.length_drop, List.length_nil]
  omega
 | .obj l, h => by
  rw [WF] at h
  have := cntM_len l h.1
  rw [cnt, cts]
  simp only [List.length_cons, List.length_append, List.length_drop, List.length_nil]
  omega
theorem cntL_len : ∀ l, WFL l → cntL l ≤ (ctsL l).length
 | [], _ => by rw [cntL]; omega
 | t :: l, h => by
  rw [WFL] at h
  have h1 := cnt_len t h.1
  have h2 := cntL_len l h.2
  rw [cntL, ctsL]
  simp only [List.length_cons, List.length_append]
  omega
theorem cntM_len : ∀ l, WFM l → cntM l ≤ (ctsM l).length
 | [], _ => by rw [cntM]; omega
 | (k, t) :: l, h => by
  rw [WFM] at h
  have h1 := cnt_len t h.2.1
  have h2 := cntM_len l h.2.2
  rw [cntM, ctsM]
  simp only [List.length_cons, List.length_append]
  omega
end
theorem kid_L : ∀ (l : List T) (p : T), p ∈ l → WFL l → (cts p).length + 1 ≤ (ctsL l).length ∧ WF p
 | [], p, h, _ => by simp at h
 | t :: l, p, h, hw => by
  rw [WFL] at hw
  rw [ctsL]
  simp only [List.length_cons, List.length_append]
  rcases List.mem_cons.1 h with rfl | h
  ·exact ⟨by omega, hw.1⟩
  ·have := kid_L l p h hw.2
   exact ⟨by omega, this.2⟩
theorem kid_M : ∀ (l : List (ByteArray × T)) (p : T), p ∈ l.map Prod.snd → WFM l → (cts p).length + 1 ≤ (ctsM l).length ∧ WF p
 | [], p, h, _ => by simp at h
 | (k, t) :: l, p, h, hw => by
  rw [WFM] at hw
  rw [ctsM]
  simp only [List.length_cons, List.length_append]
  rw [List.map_cons] at h
  rcases List.mem_cons.1 h with rfl | h
  ·exact ⟨by omega, hw.2.1⟩
  ·have := kid_M l p h hw.2.2
   exact ⟨by omega, this.2⟩
theorem kid_lt (t p : T) (h : p ∈ kids t) (hw : WF t) : (cts p).length < (cts t).length ∧ WF p := by
 cases t with
 | arr l =>
  rw [WF] at hw
  have := kid_L l p h hw
  rw [cts]
  simp only [List.length_cons, List.length_append, List.length_drop, List.length_nil]
  exact ⟨by omega, this.2⟩
 | obj l =>
  rw [WF] at hw
  have := kid_M l p h hw.1
  rw [cts]
  simp only [List.length_cons, List.length_append, List.length_drop, List.length_nil]
  exact ⟨by omega, this.2⟩
 | nul => simp [kids] at h
 | tru => simp [kids] at h
 | fls => simp [kids] at h
 | num x => simp [kids] at h
 | str b => simp [kids] at h
theorem prtL_kids : ∀ (l : List T) (n : Nat), (prtL n l).map (fun p => p.f1) = l.map ctx
 | [], n => rfl
 | t :: l, n => by rw [prtL, List.map_cons, List.map_cons, prtL_kids l]
theorem prts_kids (t : T) : (prts t).map (fun p => p.f1) = (kids t).map ctx := by
 cases t with
 | arr l => exact prtL_kids l 0
 | obj l =>
  unfold prts prtM kids
  rw [List.map_map, List.map_map]
  rfl
 | nul => rfl
 | tru => rfl
 | fls => rfl
 | num x => rfl
 | str b => rfl
theorem prts_len (t : T) : (prts t).length = (kids t).length := by
 have := congrArg List.length (prts_kids t)
 simpa using this
theorem prts_at (t : T) (i : Nat) (h : i < (kids t).length) : (rd_T92 (prts t) (i : Int)).f1 = ctx ((kids t)[i]) := by
 have h2 : i < (prts t).length := by rw [prts_len]; exact h
 rw [rd_get _ _ h2]
 have e : ((prts t).map (fun p => p.f1))[i]'(by simpa using h2) = ((kids t).map ctx)[i]'(by simpa using h) := by
  congr 1
  exact prts_kids t
 simpa using e
def SizeAt (t : T) : Prop := ∀ w : World, Calls Tryz.prog 52 #[.string (ctx t)] w fun e w' => e = .returned (.tuple #[.int .i64 (dep t : Int), .int .i64 (cnt t : Int)]) ∧ Below w.heap.size w w'
noncomputable def rec0 : Rec := mkRec (fun _ _ => none) (fun _ => none) (fun a0 a1 r1 r2 r3 r4 r5 w h => by cases h) (fun a0 r1 r2 w h => by cases h)
theorem parts_calls (t : T) (hw : WF t) (hs : (ctx t).size ≤ 900000) (w : World) :
  Calls Tryz.prog 57 #[.string (ctx t)] w fun e w' => ∃ v0_ : Value, e = .returned v0_ ∧ Kd.R k92 92 w' w.heap.size (fun _ => True) v0_ (prts t) ∧ Below w.heap.size w w' := by
 letI : Inhabited Rec := ⟨rec0⟩
 refine spec_l1Parts.calls (7 * (ctx t).size + 50) (ctx t) (prts t) w (parts_f t hw hs (fun i h1 => ?_) (fun n h1 => ?_) _ (Nat.le_refl _))
 ·show (if 0 ≤ (i : Int) ∧ (i : Int) ≤ 2097152 ∧ (ctx t).size ≤ 1048576 then _ else none) = _
  rw [if_pos ⟨by omega, by omega, by omega⟩, Int.toNat_natCast]
 ·show (if 0 ≤ (n : Int) ∧ (n : Int) ≤ 1000000000 then _ else none) = _
  rw [if_pos ⟨by omega, by omega⟩, Int.toNat_natCast]
set_option maxRecDepth 100000 in
set_option maxHeartbeats 8000000 in
theorem size_one (t : T) (hw : WF t) (hs : (ctx t).size ≤ 900000) (hk : ∀ p ∈ kids t, SizeAt p) : SizeAt t := by
 intro w
 have hcl := cnt_len t hw
 rw [← ctx_size] at hcl
 have hdc := dep_cnt t
 have hdk := dep_kids t
 have hck := cnt_kids t
 have HI := Lib.hid (show dep t = depL (kids t) + 1 ∧ cnt t = cntL (kids t) + 1 ∧ cnt t ≤ 900000 ∧ dep t ≤ 900000 from ⟨hdk, hck, by omega, by omega⟩)
 have HK := Lib.hid hk
 have HP := Lib.hid (parts_calls t hw hs w)
 have hln := prts_len t
 have HLN := Lib.hid hln
 have HAT := Lib.hid (prts_at t)
 clear hcl hdc hdk hck hk hw hs hln
 go_enter Tryz.func52, Tryz.ntmps52
 go_wp2_with fail
 refine HP.out.mono ?_
 rintro e w1 ⟨v, rfl, hr, hb⟩
 obtain ⟨A, c, rfl⟩ := Kd.R_slice hr
 have HC := Lib.hid (Kd.R_reads' hr).2.2
 have HB := Lib.hid hb
 clear hr hb
 generalize hps : prts t = ps at HC HLN HAT ⊢
 clear hps
 generalize hks : kids t = ks at HI HK HLN HAT
 clear hks
 go_wp2_with fail
 go_loopw [5, 6, 7, 8, 9] (fun v5 v6 v7 _ _ wr => ∃ k : Nat, v5 = .int .i64 (depL (ks.take k) : Int) ∧ v6 = .int .i64 (cntL (ks.take k) : Int) ∧ v7 = .int .i64 (k : Int) ∧ Hid (k ≤ ks.length) ∧ Hid (Below w1.heap.size w1 wr)) (fun _ _ v7 _ _ _ => ks.length - (intOf v7).toNat)
 case atStart => exact ⟨0, by simp [depL], by simp [cntL], by simp, Lib.hid (Nat.zero_le _), Lib.hid (Below.refl _ _)⟩
 case round =>
  obtain ⟨k, rfl, rfl, rfl, HKL, HBL⟩ := hrel
  have hkl := HKL.out
  by_cases hkn : k < ks.length
  ·have d1 : decide ((k : Int) < (ps.length : Int)) = true := decide_eq_true (by have := HLN.out; omega)
   have d1n : decide (k < ps.length) = true := decide_eq_true (by have := HLN.out; omega)
   have HKS := Lib.hid (show ks.length ≤ 1000000 from by
    have h1 := HI.out
    have h2 : ∀ l : List T, l.length ≤ cntL l := by
     intro l
     induction l with
     | nil => simp
     | cons x l ih =>
      rw [cntL_cons, List.length_cons]
      have : 1 ≤ cnt x := by rw [cnt_kids]; omega
      omega
    have := h2 ks
    omega)
   have HKN := Lib.hid hkn
   obtain ⟨ad, e0, hc0_, hc1_⟩ := at_T92 HC.out (k : Int) (by omega) (by have := HLN.out; omega)
   rw [Int.toNat_natCast] at hc0_ hc1_
   rw [HAT.out k hkn] at hc1_
   cases e0
   have hx0 := (HBL.out.cell (World.block_lt_of_cell? w1 _ hc0_)).trans hc0_
   have hx1 := (HBL.out.cell (World.block_lt_of_cell? w1 _ hc1_)).trans hc1_
   have p4 : ((0 : Int) ≤ (k : Int)) = True := eq_true (by omega)
   have q4 : ((k : Int) < (ps.length : Int)) = True := eq_true (by have := HLN.out; omega)
   have HCK := Lib.hid (HK.out ks[k] (List.getElem_mem hkn))
   have hd1 := depL_take ks k
   have hc1 := cntL_take ks k
   have hd2 := depL_take ks (k + 1)
   have hc2 := cntL_take ks (k + 1)
   have hds : depL (ks.take (k + 1)) = max (depL (ks.take k)) (dep ks[k]) := by rw [List.take_succ_eq_append_getElem hkn, depL_snoc]; exact rfl
   have hcs : cntL (ks.take (k + 1)) = cntL (ks.take k) + cnt ks[k] := by rw [List.take_succ_eq_append_getElem hkn, cntL_snoc]; exact rfl
   have HB2 := Lib.hid (show depL (ks.take (k + 1)) ≤ 900000 ∧ cntL (ks.take (k + 1)) ≤ 900000 ∧ depL (ks.take k) ≤ 900000 ∧ cntL (ks.take k) ≤ 900000 ∧ dep ks[k] ≤ 900000 ∧ cnt ks[k] ≤ 900000 from by have := HI.out; omega)
   have HDS := Lib.hid hds
   have HCS := Lib.hid hcs
   clear hc0_ hc1_ hd1 hc1 hd2 hc2 hds hcs
   go_wp2_with fail
   refine (HCK.out wr).mono ?_
   rintro e w2 ⟨rfl, hb2⟩
   have HBL2 := Lib.hid (below_then HBL.out HBL.out.size hb2)
   clear hb2
   have hb9 := HB2.out
   generalize hDe : depL (ks.take k) = D at HDS HB2 hb9
   generalize hCe : cntL (ks.take k) = C at HCS HB2 hb9
   generalize hde : dep ks[k] = dk at HDS HB2 hb9
   generalize hce : cnt ks[k] = ck at HCS HB2 hb9
   have hw1 : IntKind.i64.wrap ((C : Int) + (ck : Int)) = (C : Int) + (ck : Int) := by rw [IntKind.wrap_i64]; omega
   clear hDe hCe hde hce
   by_cases hgt : D < dk
   ·have d2 : decide ((D : Int) < (dk : Int)) = true := decide_eq_true (by omega)
    have d2n : decide (D < dk) = true := decide_eq_true hgt
    have HGT := Lib.hid hgt
    clear hgt hb9
    go_wp2_with fail
    go_roundw
    case rel =>
     have h1 := HDS.out
     have h2 := HCS.out
     have h3 := HGT.out
     refine ⟨k + 1, ?_, ?_, ?_, Lib.hid (by have := HKN.out; omega), HBL2⟩
     ·rw [h1, show max D dk = dk by omega]
     ·rw [h2]; simp
     ·have h4 := HKS.out
      have h5 := HKN.out
      rw [w64 (by omega) (by omega)]; simp
    case measure =>
     have h4 := HKS.out
     have h5 := HKN.out
     rw [w64 (by omega) (by omega)]
     simp [intOf]
     omega
   ·have d2 : decide ((D : Int) < (dk : Int)) = false := decide_eq_false (by omega)
    have d2n : decide (D < dk) = false := decide_eq_false hgt
    have HGT := Lib.hid hgt
    clear hgt hb9
    go_wp2_with fail
    go_roundw
    case rel =>
     have h1 := HDS.out
     have h2 := HCS.out
     have h3 := HGT.out
     refine ⟨k + 1, ?_, ?_, ?_, Lib.hid (by have := HKN.out; omega), HBL2⟩
     ·rw [h1, show max D dk = D by omega]
     ·rw [h2]; simp
     ·have h4 := HKS.out
      have h5 := HKN.out
      rw [w64 (by omega) (by omega)]; simp
    case measure =>
     have h4 := HKS.out
     have h5 := HKN.out
     rw [w64 (by omega) (by omega)]
     simp [intOf]
     omega
  ·have d1 : decide ((k : Int) < (ps.length : Int)) = false := decide_eq_false (by have := HLN.out; omega)
   have d1n : decide (k < ps.length) = false := decide_eq_false (by have := HLN.out; omega)
   have hke : k = ks.length := by omega
   rw [show ks.take k = ks by rw [hke, List.take_length]]
   have hi := HI.out
   generalize depL ks = D at HI hi
   generalize cntL ks = C at HI hi
   have hw1 : IntKind.i64.wrap ((D : Int) + 1) = (D : Int) + 1 := by rw [IntKind.wrap_i64]; omega
   have hw2 : IntKind.i64.wrap ((C : Int) + 1) = (C : Int) + 1 := by rw [IntKind.wrap_i64]; omega
   clear hi hke hkn hkl
   go_wp2_with fail
   go_ret2
   refine ⟨?_, below_then HB.out HB.out.size HBL.out⟩
   obtain ⟨h1, h2, _⟩ := HI.out
   rw [h1, h2]
   simp
theorem sizes_all : ∀ (n : Nat) (t : T), (cts t).length ≤ n → WF t → (ctx t).size ≤ 900000 → SizeAt t := by
 intro n
 induction n with
 | zero => intro t h hw _; have := cts_pos t hw; omega
 | succ n ih =>
  intro t h hw hs
  refine size_one t hw hs (fun p hp => ?_)
  have := kid_lt t p hp hw
  rw [ctx_size] at hs
  exact ih p (by omega) this.2 (by rw [ctx_size]; omega)
end Go.Proofs.YtndagnkhjlgjgaaGreatDoor.Pf
