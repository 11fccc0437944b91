/- The printed l1Parts and l1Within of the reference's side at a canonical text. Plain. -/
import Derived.Test.YtbonodglnilkfaaGreatDoorPfV
namespace Go.Proofs.YtbonodglnilkfaaGreatDoor.Pf
open Go Go.RowKit Go.Proofs.YtbonodglnilkfaaGreatDoorW.PrintWords Go.Proofs.YtbonodglnilkfaaGreatDoor.Str Go.Proofs.YtbonodglnilkfaaGreatDoor.Tree Go.Proofs.YtbonodglnilkfaaGreatDoor.Read Go.Proofs.YtbonodglnilkfaaGreatDoor.PJt Go.Proofs.YtbonodglnilkfaaGreatDoor.Own
set_option linter.unusedVariables false
set_option linter.unusedSimpArgs false
def prtL : Nat → List T → List Prt
 | _, [] => []
 | n, t :: l => ⟨decB n, ctx t⟩ :: prtL (n + 1) l
def prtM (l : List (ByteArray × T)) : List Prt := l.map fun x => ⟨x.1, ctx x.2⟩
def prts : T → List Prt
 | .arr l => prtL 0 l
 | .obj l => prtM l
 | _ => []
theorem cut_at {s : ByteArray} {i : Nat} {l e : List Int} (h : At s i (l ++ e)) : s.extract i (i + l.length) = strOfNums l := by
 have h1 := (At.app h).1
 have hb := bytes_cut s i l.length h1.le
 rw [At.btsL h1] at hb
 have h2 : byt (s.extract i (i + l.length)) = l := hb
 have h3 : strOfNums (byt (s.extract i (i + l.length))) = strOfNums l := by rw [h2]
 rw [← h3, str_byt]
theorem at0 {s : ByteArray} {c : Int} {l : List Int} (h : At s 0 (c :: l)) : bt s 0 = c := h.2.1
theorem cts_pos (t : T) (hw : WF t) : 1 ≤ (cts t).length := by
 cases t with
 | nul => rw [cts]; simp
 | tru => rw [cts]; simp
 | fls => rw [cts]; simp
 | num x =>
  rw [WF] at hw
  obtain ⟨n, rfl⟩ := hw
  rw [cts]
  have := numT_ne n
  cases h : byt (numT n) with
  | nil => exact absurd h this
  | cons a b => simp
 | str b => rw [cts, quo_len]; omega
 | arr l => rw [cts]; simp
 | obj l => rw [cts]; simp
theorem ctsL_len : ∀ l : List T, WFL l → l.length ≤ (ctsL l).length
 | [], _ => by simp
 | t :: l, h => by
  rw [WFL] at h
  have := ctsL_len l h.2
  rw [ctsL]
  simp only [List.length_cons, List.length_append]
  omega
theorem ctsM_len : ∀ l : List (ByteArray × T), WFM l → l.length ≤ (ctsM l).length
 | [], _ => by simp
 | (k, t) :: l, h => by
  rw [WFM] at h
  have := ctsM_len l h.2.2
  rw [ctsM]
  simp only [List.length_cons, List.length_append]
  omega
section
variable [Inhabited Rec]
theorem parts_arr (s : ByteArray) (hs : s.size ≤ 1000000) (h0 : 0 < s.size) (hb0 : bt s 0 = 91) (HS : ∀ i : Nat, i ≤ s.size → spec_l1String.f s (i : Int) = some (strOfNums (strXF s i).1, ((strXF s i).2.1 : Int), (strXF s i).2.2))
  (HD : ∀ n : Nat, n ≤ 1000000000 → spec_l1Dec.f (n : Int) = some (decB n)) :
  ∀ (l : List T) (i k : Nat) (acc : List Prt), WFL l → (l = [] → s.size ≤ i + 1 ∧ i ≤ s.size) → (l ≠ [] → At s i ((ctsL l).drop 1 ++ [93]) ∧ i + ((ctsL l).drop 1).length + 1 = s.size) → acc.length + l.length ≤ 1000000 → l.length + 5 * s.size + 30 ≤ k →
   spec_l1Parts.l0 k s acc (i : Int) = some (acc ++ prtL acc.length l)
 | [], i, k, acc, hw, hn, hc, ha, hk => by
  obtain ⟨k, rfl⟩ : ∃ j, k = j + 1 := ⟨k - 1, by omega⟩
  have := hn rfl
  have HW := Lib.hid (show wrap64 ((s.size : Int) - 1) = (s.size : Int) - 1 from w64 (by omega) (by omega))
  rw [spec_l1Parts.l0, HW.out, if_neg (by omega), prtL, List.append_nil]
 | t :: l, i, k, acc, hw, hn, hc, ha, hk => by
  obtain ⟨k, rfl⟩ : ∃ j, k = j + 1 := ⟨k - 1, by omega⟩
  obtain ⟨hat, hsz⟩ := hc (by simp)
  rw [WFL] at hw
  rw [ctsL_drop] at hat hsz
  have hp := cts_pos t hw.1
  rw [List.length_append] at hsz
  have hat2 : At s i (cts t ++ (ctsL l ++ [93])) := by rw [← List.append_assoc]; exact hat
  have hnx := (At.app hat2).2
  have hT : isT s (i + (cts t).length) = true := by
   cases l with
   | nil =>
    have h2 : At s (i + (cts t).length) (93 :: []) := by simpa [ctsL] using hnx
    unfold isT
    rw [h2.2.1]
    simp
   | cons t2 l2 =>
    rw [ctsL] at hnx
    have h2 : At s (i + (cts t).length) (44 :: ((cts t2 ++ ctsL l2) ++ [93])) := hnx
    unfold isT
    rw [h2.2.1]
    simp
  have hend := end_out s t hw.1 i _ hat2 hT
  have hcut := cut_at hat2
  have HW := Lib.hid (show wrap64 ((s.size : Int) - 1) = (s.size : Int) - 1 from w64 (by omega) (by omega))
  have HW2 := Lib.hid (show wrap64 (((i + (cts t).length : Nat) : Int) + 1) = ((i + (cts t).length + 1 : Nat) : Int) from by rw [w64 (by omega) (by omega)]; omega)
  have hll : (ctsL l).length ≥ 0 := Nat.zero_le _
  have ha2 : acc.length + (l.length + 1) ≤ 1000000 := by simpa using ha
  have hk2 : (l.length + 1) + 5 * s.size + 30 ≤ k + 1 := by simpa using hk
  rw [spec_l1Parts.l0, HW.out, if_pos (by omega), HD _ (by omega), Option.bind_some, if_pos (by omega), if_neg (by rw [hb0]; decide), end_f s hs HS i k (by rw [hend]; omega) (by omega) (by omega), Option.bind_some, hend, if_pos (by omega), if_pos (by omega), if_pos (by omega), if_pos (by omega), HW2.out, Int.toNat_natCast, Int.toNat_natCast, hcut]
  have ih := parts_arr s hs h0 hb0 HS HD l (i + (cts t).length + 1) k (acc ++ [(⟨decB acc.length, strOfNums (cts t)⟩ : Prt)]) hw.2 (fun e => by subst e; simp [ctsL] at hsz; omega) (fun e => by
   cases l with
   | nil => exact absurd rfl e
   | cons t2 l2 =>
    rw [ctsL_drop]
    rw [ctsL] at hnx hsz
    have h2 : At s (i + (cts t).length) (44 :: ((cts t2 ++ ctsL l2) ++ [93])) := hnx
    refine ⟨h2.2.2, ?_⟩
    simp only [List.length_cons, List.length_append] at hsz ⊢
    omega) (by rw [List.length_append]; simp; omega) (by omega)
  rw [ih, prtL, List.length_append, List.append_assoc]
  rfl
theorem parts_obj (s : ByteArray) (hs : s.size ≤ 1000000) (h0 : 0 < s.size) (hb0 : bt s 0 = 123) (HS : ∀ i : Nat, i ≤ s.size → spec_l1String.f s (i : Int) = some (strOfNums (strXF s i).1, ((strXF s i).2.1 : Int), (strXF s i).2.2))
  (HD : ∀ n : Nat, n ≤ 1000000000 → spec_l1Dec.f (n : Int) = some (decB n)) :
  ∀ (l : List (ByteArray × T)) (i k : Nat) (acc : List Prt), WFM l → (l = [] → s.size ≤ i + 1 ∧ i ≤ s.size) → (l ≠ [] → At s i ((ctsM l).drop 1 ++ [125]) ∧ i + ((ctsM l).drop 1).length + 1 = s.size) → acc.length + l.length ≤ 1000000 → l.length + 5 * s.size + 30 ≤ k →
   spec_l1Parts.l0 k s acc (i : Int) = some (acc ++ prtM l)
 | [], i, k, acc, hw, hn, hc, ha, hk => by
  obtain ⟨k, rfl⟩ : ∃ j, k = j + 1 := ⟨k - 1, by omega⟩
  have := hn rfl
  have HW := Lib.hid (show wrap64 ((s.size : Int) - 1) = (s.size : Int) - 1 from w64 (by omega) (by omega))
  rw [spec_l1Parts.l0, HW.out, if_neg (by omega)]
  unfold prtM
  rw [List.map_nil, List.append_nil]
 | (key, t) :: l, i, k, acc, hw, hn, hc, ha, hk => by
  obtain ⟨k, rfl⟩ : ∃ j, k = j + 1 := ⟨k - 1, by omega⟩
  obtain ⟨hat, hsz⟩ := hc (by simp)
  rw [WFM] at hw
  obtain ⟨hkey, hwt, hwl⟩ := hw
  rw [ctsM_drop] at hat hsz
  have hp := cts_pos t hwt
  simp only [List.length_append, List.length_cons] at hsz
  have hat0 : At s i (quo key ++ (58 :: (cts t ++ (ctsM l ++ [125])))) := by
   have e : quo key ++ 58 :: (cts t ++ ctsM l) ++ [125] = quo key ++ (58 :: (cts t ++ (ctsM l ++ [125]))) := by simp [List.append_assoc]
   rw [← e]; exact hat
  have hstr := strXF_quo key hkey s i _ hat0
  have hat1 : At s (i + (quo key).length) (58 :: (cts t ++ (ctsM l ++ [125]))) := (At.app hat0).2
  have hat2 : At s (i + (quo key).length + 1) (cts t ++ (ctsM l ++ [125])) := hat1.2.2
  have hnx := (At.app hat2).2
  generalize hq : i + (quo key).length + 1 = q at hat2 hnx
  have hT : isT s (q + (cts t).length) = true := by
   cases l with
   | nil =>
    have h2 : At s (q + (cts t).length) (125 :: []) := by simpa [ctsM] using hnx
    unfold isT
    rw [h2.2.1]
    simp
   | cons t2 l2 =>
    obtain ⟨k2, t2⟩ := t2
    rw [ctsM] at hnx
    have h2 : At s (q + (cts t).length) (44 :: ((quo k2 ++ 58 :: (cts t2 ++ ctsM l2)) ++ [125])) := hnx
    unfold isT
    rw [h2.2.1]
    simp
  have hend := end_out s t hwt q _ hat2 hT
  have hcut := cut_at hat2
  have HW := Lib.hid (show wrap64 ((s.size : Int) - 1) = (s.size : Int) - 1 from w64 (by omega) (by omega))
  have HW2 := Lib.hid (show wrap64 (((q + (cts t).length : Nat) : Int) + 1) = ((q + (cts t).length + 1 : Nat) : Int) from by rw [w64 (by omega) (by omega)]; omega)
  have HW3 := Lib.hid (show wrap64 (((i + (quo key).length : Nat) : Int) + 1) = (q : Int) from by rw [w64 (by omega) (by omega)]; omega)
  have ha2 : acc.length + (l.length + 1) ≤ 1000000 := by simpa using ha
  have hk2 : (l.length + 1) + 5 * s.size + 30 ≤ k + 1 := by simpa using hk
  rw [spec_l1Parts.l0, HW.out, if_pos (by omega), HD _ (by omega), Option.bind_some, if_pos (by omega), if_pos hb0, HS i (by omega), Option.bind_some, hstr]
  simp only
  rw [HW3.out, end_f s hs HS q k (by rw [hend]; omega) (by omega) (by omega), Option.bind_some, hend, if_pos (by omega), if_pos (by omega), if_pos (by omega), if_pos (by omega), HW2.out, Int.toNat_natCast, Int.toNat_natCast, hcut, str_byt]
  have ih := parts_obj s hs h0 hb0 HS HD l (q + (cts t).length + 1) k (acc ++ [(⟨key, strOfNums (cts t)⟩ : Prt)]) hwl (fun e => by subst e; simp [ctsM] at hsz; omega) (fun e => by
   cases l with
   | nil => exact absurd rfl e
   | cons t2 l2 =>
    obtain ⟨k2, t2⟩ := t2
    rw [ctsM_drop]
    rw [ctsM] at hnx hsz
    have h2 : At s (q + (cts t).length) (44 :: ((quo k2 ++ 58 :: (cts t2 ++ ctsM l2)) ++ [125])) := hnx
    refine ⟨h2.2.2, ?_⟩
    simp only [List.length_cons, List.length_append] at hsz ⊢
    omega) (by rw [List.length_append]; simp; omega) (by omega)
  rw [ih, List.append_assoc]
  rfl
theorem parts_f (t : T) (hw : WF t) (hs : (ctx t).size ≤ 900000) (HS : ∀ i : Nat, i ≤ (ctx t).size → spec_l1String.f (ctx t) (i : Int) = some (strOfNums (strXF (ctx t) i).1, ((strXF (ctx t) i).2.1 : Int), (strXF (ctx t) i).2.2))
  (HD : ∀ n : Nat, n ≤ 1000000000 → spec_l1Dec.f (n : Int) = some (decB n)) (k : Nat) (hk : 7 * (ctx t).size + 50 ≤ k) : spec_l1Parts.f k (ctx t) = some (prts t) := by
 have hat := ctx_at t
 have hz := ctx_size t
 have hp := cts_pos t hw
 obtain ⟨k, rfl⟩ : ∃ j, k = j + 1 := ⟨k - 1, by omega⟩
 unfold spec_l1Parts.f
 rw [Option.bind_some, if_pos (by omega)]
 have other : (bt (ctx t) 0 ≠ 91) → (bt (ctx t) 0 ≠ 123) → prts t = [] → (if bt (ctx t) 0 = 91 then spec_l1Parts.j0 (k + 1) (ctx t) [] false else spec_l1Parts.j0 (k + 1) (ctx t) [] (bt (ctx t) 0 != 123)) = some (prts t) := by
  intro h1 h2 h3
  rw [if_neg h1, show (bt (ctx t) 0 != 123) = true by simp [h2], spec_l1Parts.j0, if_pos rfl, h3]
 cases t with
 | arr l =>
  rw [WF] at hw
  rw [cts] at hat hz
  have h1 : bt (ctx (.arr l)) 0 = 91 := hat.2.1
  have h2 : At (ctx (.arr l)) 1 ((ctsL l).drop 1 ++ [93]) := hat.2.2
  simp only [List.length_cons, List.length_append, List.length_nil] at hz
  have hll := ctsL_len l hw
  have hdl : (ctsL l).length ≤ ((ctsL l).drop 1).length + 1 := by rw [List.length_drop]; omega
  rw [if_pos h1, spec_l1Parts.j0, if_neg (by simp)]
  have := parts_arr (ctx (.arr l)) (by omega) (by omega) h1 HS HD l 1 k [] hw (fun e => by subst e; simp [ctsL] at hz; omega) (fun e => ⟨h2, by omega⟩) (by simp; omega) (by omega)
  simpa [prts] using this
 | obj l =>
  rw [WF] at hw
  rw [cts] at hat hz
  have h1 : bt (ctx (.obj l)) 0 = 123 := hat.2.1
  have h2 : At (ctx (.obj l)) 1 ((ctsM l).drop 1 ++ [125]) := hat.2.2
  simp only [List.length_cons, List.length_append, List.length_nil] at hz
  have hll := ctsM_len l hw.1
  have hdl : (ctsM l).length ≤ ((ctsM l).drop 1).length + 1 := by rw [List.length_drop]; omega
  rw [if_neg (by rw [h1]; decide), h1, show ((123 : Int) != 123) = false from rfl, spec_l1Parts.j0, if_neg (by simp)]
  have := parts_obj (ctx (.obj l)) (by omega) (by omega) h1 HS HD l 1 k [] hw.1 (fun e => by subst e; simp [ctsM] at hz; omega) (fun e => ⟨h2, by omega⟩) (by simp; omega) (by omega)
  simpa [prts] using this
 | nul => rw [cts] at hat; exact other (by rw [at0 hat]; decide) (by rw [at0 hat]; decide) rfl
 | tru => rw [cts] at hat; exact other (by rw [at0 hat]; decide) (by rw [at0 hat]; decide) rfl
 | fls => rw [cts] at hat; exact other (by rw [at0 hat]; decide) (by rw [at0 hat]; decide) rfl
 | str b =>
  rw [cts] at hat
  have hat : At (ctx (.str b)) 0 (34 :: ((byt b).flatMap escI ++ [34])) := hat
  exact other (by rw [at0 hat]; decide) (by rw [at0 hat]; decide) rfl
 | num x =>
  rw [WF] at hw
  obtain ⟨n, rfl⟩ := hw
  rw [cts] at hat
  cases h : byt (numT n) with
  | nil => exact absurd h (numT_ne n)
  | cons a r =>
   rw [h] at hat
   have ha := numT_plain n a (by rw [h]; simp)
   unfold plainB at ha
   exact other (by rw [at0 hat]; omega) (by rw [at0 hat]; omega) rfl
end
end Go.Proofs.YtbonodglnilkfaaGreatDoor.Pf
