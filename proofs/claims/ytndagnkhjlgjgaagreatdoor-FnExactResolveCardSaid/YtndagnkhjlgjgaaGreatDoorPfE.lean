/- The printed l1Object of the reference's side, in this session's words. Plain. -/
import Derived.Test.YtndagnkhjlgjgaaGreatDoorPfD
import Derived.Test.YtndagnkhjlgjgaaGreatDoorProg
import Derived.Below
import Derived.Deep.Draws
import Derived.Deep.AppendLies
import Derived.Maps.AppendAt
import Derived.OwnWalk
import Derived.Laws.BytesArg
import Derived.Laws.MakeOwn
import Derived.Laws.OwnMore
import Derived.Deep.OwnRows
import Derived.Tactics
import Derived.Lib.ConvBytes
import Derived.Laws.Slices
import Derived.WalkKit
import Derived.KernelRfl
import Derived.RowKit3
import Derived.Deep.LoopGhost
import Derived.Deep.QuietTactic
import Derived.BigQuiet
import Derived.WideLaws
import Derived.Deep.DeepCutAuto
import Derived.Deep.CutBlock
import Derived.Deep.RegionHeld3
import Derived.Laws.Rows
import Derived.Lib.AppendStr
import Derived.ArgAppend
import Derived.Laws.IdiomCopy
import Derived.OrdersHeld
import Derived.Laws.BitsLemmas
import Derived.RowKit
namespace Go.Proofs.YtndagnkhjlgjgaaGreatDoor.Pf
open Go Go.RowKit YtndagnkhjlgjgaaGreatDoorW.PrintWords Str Tree Read PJt Own
set_option linter.unusedVariables false
set_option linter.unusedSimpArgs false
def P2 (m : List (ByteArray × List Int)) : List Prt := m.map fun x => ⟨x.1, strOfNums x.2⟩
def Rg (m : List (ByteArray × List Int)) : Prop := ∀ p ∈ m, ∀ x ∈ p.2, 0 ≤ x ∧ x ≤ 255
theorem P2_pr (m : List (ByteArray × List Int)) : (P2 m).map pr = m.map fun x => (x.1, strOfNums x.2) := by
 unfold P2 pr
 rw [List.map_map]
 rfl
theorem joinP_pr (ps : List Prt) : joinP ps = joinM ((ps.map pr).map fun x => (x.1, byt x.2)) := by
 unfold joinP joinM pr
 rw [List.map_map, List.flatMap_map]
 rfl
theorem foldK_mem (p : ByteArray × List Int) : ∀ (l m : List (ByteArray × List Int)), p ∈ l.foldl (fun m x => insK x m) m → p ∈ l ∨ p ∈ m := by
 intro l
 induction l with
 | nil => intro m h; exact .inr h
 | cons y l ih =>
  intro m h
  rcases ih _ h with h | h
  ·exact .inl (by simp [h])
  ·rcases (mem_insK _ _ _).1 h with rfl | h
   ·exact .inl (by simp)
   ·exact .inr h
theorem sortP_mem {p : ByteArray × List Int} {l : List (ByteArray × List Int)} (h : p ∈ sortP l) : p ∈ l := by
 rcases foldK_mem p l [] h with h | h
 ·exact h
 ·simp at h
theorem sortP_map {α β : Type} (f : α → β) (l : List (ByteArray × α)) : sortP (l.map fun p => (p.1, f p.2)) = (sortP l).map fun p => (p.1, f p.2) := by
 unfold sortP
 rw [foldK_map]
 rfl
theorem make_sorted (m : List (ByteArray × List Int)) (hm : Rg m) (r : List Prt) (hr : r.map pr = sortP ((P2 m).map pr)) : joinP r = joinM (sortP m) := by
 rw [joinP_pr, hr, P2_pr, sortP_map, List.map_map]
 have e : (sortP m).map ((fun x => (x.1, byt x.2)) ∘ fun p : ByteArray × List Int => (p.1, strOfNums p.2)) = sortP m := by
  conv => rhs; rw [← List.map_id (sortP m)]
  refine List.map_congr_left fun x hx => ?_
  simp only [Function.comp, id]
  rw [byt_str _ (hm x (sortP_mem hx))]
 rw [e]
theorem hasKey_any (m : List (ByteArray × List Int)) (key : ByteArray) : ((P2 m).any fun p => p.f0.data.toList == key.data.toList) = hasKey (m.map Prod.fst) key := by
 unfold P2 hasKey
 rw [List.any_map, List.any_map]
 rfl
section
variable [Inhabited Rec]
def objG (s : ByteArray) (n i : Nat) (m : List (ByteArray × List Int)) (bg tw : Bool) : ByteArray × Int × Bool × Bool × Bool := match membersF s (fun q => val s (s.size + 1) q) n i with
 | none => noGot
 | some (l, r) => (strOfNums (123 :: ((joinM (sortP (m ++ txsM l))).drop 1 ++ [125])), (r : Int), true, bg || bigM bigB l, tw || twiceM (m.map Prod.fst) l)
def tailG (s : ByteArray) (n : Nat) (m : List (ByteArray × List Int)) (key : ByteArray) (t : T) (r : Nat) (bg tw : Bool) : ByteArray × Int × Bool × Bool × Bool :=
 if isAt s (skip s r) 125 = true then (strOfNums (123 :: ((joinM (sortP (m ++ [(key, txs t)]))).drop 1 ++ [125])), ((skip s r + 1 : Nat) : Int), true, bg, tw)
 else if isAt s (skip s r) 44 = true then objG s n (skip s (skip s r + 1)) (m ++ [(key, txs t)]) bg tw
 else noGot
theorem obj_l0 (s : ByteArray) (hs : s.size ≤ 1048576) (lo : Nat) (HV : ∀ i : Nat, lo < i → i ≤ s.size → spec_l1Value.f s (i : Int) = some (gotF s i))
  (HS : ∀ i : Nat, i ≤ s.size → spec_l1String.f s (i : Int) = some (strOfNums (strXF s i).1, ((strXF s i).2.1 : Int), (strXF s i).2.2))
  (HM : ∀ ps : List Prt, (joinP ps).length ≤ 100000000 → ps.length ≤ 100000000 → spec_l1Make.f ps = some (strOfNums (mkT ps))) (F : Nat) (hF : 1000000 * 1000003 + 1000000 ≤ F) :
  ∀ (n i k : Nat) (m : List (ByteArray × List Int)) (nx : Int) (bg tw : Bool), lo < i → i ≤ s.size → s.size < i + n → m.length ≤ i → m.length ≤ 900000 → Rg m → (joinM m).length ≤ 26 * i → 6 * n + F ≤ k → s.size ≤ 900000 → spec_l1Object.l0 k s (i : Int) (P2 m) (⟨#[]⟩ : ByteArray) nx true bg tw = some (objG s n i m bg tw) := by
 intro n
 induction n with
 | zero => intro i k m nx bg tw h1 h2 h3; omega
 | succ n ih =>
  intro i k m nx bg tw h1 h2 h3 h4 h4b h5 h6 hk hs9
  obtain ⟨k, rfl⟩ : ∃ j, k = j + 4 := ⟨k - 4, by omega⟩
  have hpl : (P2 m).length = m.length := by unfold P2; simp
  rw [spec_l1Object.l0, HS i h2, Option.bind_some]
  simp only
  rw [skip_f s (by omega) _ _ (by omega), Option.bind_some]
  unfold objG
  rw [membersF]
  have hsx := strXF_strF s i
  by_cases ho : (strXF s i).2.2 = true
  ·rw [if_pos ho] at hsx
   rw [hsx, if_pos ho, at_f, Option.bind_some, spec_l1Object.j1]
   have hle0 := strF_le hsx
   have hkr := VU.range (VU_strF hsx)
   simp only
   generalize (strXF s i).1 = b at hle0 hkr
   generalize (strXF s i).2.1 = r1 at hle0
   have hk1 := skip_le s r1
   by_cases c0 : isAt s (skip s r1) 58 = true
   ·have hlt0 := isAt_lt c0
    have hk2 := skip_le s (skip s r1 + 1)
    have HW0 := Lib.hid (show wrap64 (((skip s r1 : Nat) : Int) + 1) = ((skip s r1 + 1 : Nat) : Int) by rw [w64 (by omega) (by omega)]; omega)
    rw [if_neg (by rw [c0]; simp), if_pos c0, HW0.out, skip_f s (by omega) _ _ (by omega), Option.bind_some, HV _ (by omega) (by omega), Option.bind_some]
    generalize hq0 : skip s (skip s r1 + 1) = q0 at hk2
    cases hv : val s (s.size + 1) q0 with
    | none =>
     rw [got_none hv, if_neg (by simp)]
     rfl
    | some x =>
     obtain ⟨t, r⟩ := x
     have hle := val_le s _ _ t r hv
     have hln := val_len s _ _ t r hv
     have hsk := skip_le s r
     have hsk2 := skip_le s (skip s r + 1)
     rw [got_some hv]
     simp only
     rw [if_pos trivial]
     have hjl : (joinM (m ++ [(strOfNums b, txs t)])).length ≤ 26 * r := by
      have hb := quo_le (strOfNums b)
      rw [str_size] at hb
      unfold joinM at h6 ⊢
      rw [List.flatMap_append, List.length_append]
      simp only [List.flatMap_cons, List.flatMap_nil, List.append_nil, List.length_cons, List.length_append]
      omega
     have hRg : Rg (m ++ [(strOfNums b, txs t)]) := by
      intro p hp x hx
      rcases List.mem_append.1 hp with hp | hp
      ·exact h5 p hp x hx
      ·simp at hp
       subst hp
       exact txs_range t x hx
     have hP2 : P2 m ++ [(⟨strOfNums b, strOfNums (txs t)⟩ : Prt)] = P2 (m ++ [(strOfNums b, txs t)]) := by unfold P2; rw [List.map_append]; rfl
     have e3 : ∀ b1 b2 g1 g2 : Bool, spec_l1Object.j3 (k + 1) s (P2 m) (strOfNums b) (⟨#[]⟩ : ByteArray) nx true b1 b2 (strOfNums (txs t)) (r : Int) true g1 g2 = some (tailG s n m (strOfNums b) t r b1 b2) := by
      intro b1 b2 g1 g2
      have HW1 := Lib.hid (show wrap64 (((skip s r : Nat) : Int) + 1) = ((skip s r + 1 : Nat) : Int) by rw [w64 (by omega) (by omega)]; omega)
      rw [spec_l1Object.j3, if_pos (by omega), Option.bind_some, skip_f s (by omega) r k (by omega), Option.bind_some, at_f, Option.bind_some, hP2]
      unfold tailG
      by_cases c1 : isAt s (skip s r) 125 = true
      ·rw [if_pos c1, if_pos c1]
       have hpl2 : (P2 (m ++ [(strOfNums b, txs t)])).length = m.length + 1 := by unfold P2; simp
       obtain ⟨rr, hr1, hr2⟩ := sort_f (P2 (m ++ [(strOfNums b, txs t)])) (by omega) k (by
        rw [hpl2]
        have : (m.length + 1) * (m.length + 1 + 3) ≤ 1000000 * 1000003 := Nat.mul_le_mul (by omega) (by omega)
        omega)
       have hj := make_sorted _ hRg rr hr2
       have hrl : rr.length ≤ 1000000 := by
        have h9 : (rr.map pr).length = (sortP ((P2 (m ++ [(strOfNums b, txs t)])).map pr)).length := by rw [hr2]
        rw [List.length_map] at h9
        have hsl : ∀ l : List (ByteArray × ByteArray), (sortP l).length = l.length := by
         have ki : ∀ (x : ByteArray × ByteArray) (l : List (ByteArray × ByteArray)), (insK x l).length = l.length + 1 := by
          intro x l
          induction l with
          | nil => rfl
          | cons y r ih =>
           unfold insK
           split
           ·rfl
           ·rw [List.length_cons, ih]; rfl
         have key : ∀ (l m : List (ByteArray × ByteArray)), (l.foldl (fun m x => insK x m) m).length = l.length + m.length := by
          intro l
          induction l with
          | nil => intro m; simp
          | cons x l ih => intro m; rw [List.foldl_cons, ih, ki, List.length_cons]; omega
         intro l
         unfold sortP
         rw [key]
         rfl
        rw [hsl, List.length_map, hpl2] at h9
        omega
       rw [hr1, Option.bind_some, HM rr (by rw [hj, sortP_join]; omega) (by omega), Option.bind_some, HW1.out]
       unfold mkT
       rw [hj]
      ·rw [if_neg c1, if_neg c1, at_f, Option.bind_some]
       by_cases c2 : isAt s (skip s r) 44 = true
       ·have hlt := isAt_lt c2
        rw [if_pos c2, if_pos c2, HW1.out, skip_f s (by omega) _ k (by omega), Option.bind_some]
        exact ih (skip s (skip s r + 1)) k (m ++ [(strOfNums b, txs t)]) nx b1 b2 (by omega) (by omega) (by omega) (by rw [List.length_append]; simp; omega) (by rw [List.length_append]; simp; omega) hRg (by omega) (by omega) hs9
       ·rw [if_neg c2, if_neg c2]
        rfl
     have e2 : ∀ b1 : Bool, spec_l1Object.j2 (k + 2) s (P2 m) (strOfNums b) (⟨#[]⟩ : ByteArray) nx true b1 tw (strOfNums (txs t)) (r : Int) true (big bigB t) (twice t) = some (tailG s n m (strOfNums b) t r b1 ((tw || twice t) || hasKey (m.map Prod.fst) (strOfNums b))) := by
      intro b1
      rw [spec_l1Object.j2]
      cases tw with
      | true => rw [if_pos rfl, e3]; simp
      | false =>
       rw [if_neg (by simp)]
       cases twice t with
       | true => rw [if_pos rfl, e3]; simp
       | false =>
        rw [if_neg (by simp), find_f (P2 m) (by omega) (strOfNums b) (k + 1) (by omega), Option.bind_some, e3, findP_has, hasKey_any]
        simp
     have eF : tailG s n m (strOfNums b) t r (bg || big bigB t) ((tw || twice t) || hasKey (m.map Prod.fst) (strOfNums b)) = (match (if isAt s (skip s r) 125 = true then some ([(strOfNums b, t)], skip s r + 1)
       else if isAt s (skip s r) 44 = true then (membersF s (fun q => val s (s.size + 1) q) n (skip s (skip s r + 1))).map fun x => ((strOfNums b, t) :: x.1, x.2)
       else none) with
      | none => noGot
      | some (l, r) => (strOfNums (123 :: ((joinM (sortP (m ++ txsM l))).drop 1 ++ [125])), (r : Int), true, bg || bigM bigB l, tw || twiceM (m.map Prod.fst) l)) := by
      unfold tailG
      by_cases c1 : isAt s (skip s r) 125 = true
      ·rw [if_pos c1, if_pos c1]
       simp only
       rw [txsM, txsM, bigM, bigM, twiceM, twiceM, Bool.or_false, Bool.or_false, Bool.or_assoc]
      ·rw [if_neg c1, if_neg c1]
       by_cases c2 : isAt s (skip s r) 44 = true
       ·rw [if_pos c2, if_pos c2]
        unfold objG
        cases membersF s (fun q => val s (s.size + 1) q) n (skip s (skip s r + 1)) with
        | none => rfl
        | some y =>
         obtain ⟨l, r2⟩ := y
         simp only [Option.map_some]
         rw [txsM, bigM, twiceM, List.append_assoc, List.map_append]
         simp only [List.map_cons, List.map_nil, List.cons_append, List.nil_append, Bool.or_assoc]
       ·rw [if_neg c2, if_neg c2]
     rw [← eF]
     cases bg with
     | true => rw [if_pos rfl, e2]; simp
     | false => rw [if_neg (by simp), e2]; simp
   ·rw [if_pos (by simp [c0]), if_neg c0]
    rfl
  ·rw [if_neg ho] at hsx
   rw [hsx, if_neg ho, spec_l1Object.j1, if_pos rfl]
   rfl
theorem obj_f (s : ByteArray) (hs : s.size ≤ 900000) (p : Nat) (hp : isAt s p 123 = true) (HV : ∀ i : Nat, p < i → i ≤ s.size → spec_l1Value.f s (i : Int) = some (gotF s i))
  (HS : ∀ i : Nat, i ≤ s.size → spec_l1String.f s (i : Int) = some (strOfNums (strXF s i).1, ((strXF s i).2.1 : Int), (strXF s i).2.2))
  (HM : ∀ ps : List Prt, (joinP ps).length ≤ 100000000 → ps.length ≤ 100000000 → spec_l1Make.f ps = some (strOfNums (mkT ps))) (k : Nat) (hk : 1000000 * 1000003 + 1000000 + 6 * s.size ≤ k) :
  spec_l1Object.f k s (p : Int) = some (gotF s p) := by
 have h0 := isAt_lt hp
 have hsk := skip_le s (p + 1)
 have HW2 := Lib.hid (show wrap64 (((skip s (p + 1) : Nat) : Int) + 1) = ((skip s (p + 1) + 1 : Nat) : Int) by rw [w64 (by omega) (by omega)]; omega)
 have HW := Lib.hid (show wrap64 ((p : Int) + 1) = ((p + 1 : Nat) : Int) by rw [w64 (by omega) (by omega)]; omega)
 have hq : isAt s p 34 = false := isAt_no (by omega)
 have h91 : isAt s p 91 = false := isAt_no (by omega)
 have hv : val s (s.size + 1) p = (if isAt s (skip s (p + 1)) 125 = true then some (.obj [], skip s (p + 1) + 1) else (membersF s (fun q => val s s.size q) s.size (skip s (p + 1))).map fun x => (.obj x.1, x.2)) := by
  rw [val, if_neg (by rw [h91]; simp), if_pos hp]
 unfold spec_l1Object.f gotF
 rw [hq, if_neg (by simp), HW.out, skip_f s (by omega) (p + 1) k (by omega), Option.bind_some, at_f, Option.bind_some, hv]
 by_cases c : isAt s (skip s (p + 1)) 125 = true
 ·rw [if_pos c, if_pos c, HW2.out]
  simp only
  rw [txs, txsM, big, bigM, twice, twiceM]
  rfl
 ·have hl := obj_l0 s (by omega) p HV HS HM (1000000 * 1000003 + 1000000) (Nat.le_refl _) s.size (skip s (p + 1)) k [] 0 false false (by omega) (by omega) (by omega) (by simp) (by simp) (by intro p hp; simp at hp) (by simp [joinM]) (by omega) hs
  rw [if_neg c, if_neg c]
  have e0 : P2 [] = ([] : List Prt) := rfl
  rw [e0] at hl
  rw [hl]
  unfold objG
  have hc : membersF s (fun q => val s (s.size + 1) q) s.size (skip s (p + 1)) = membersF s (fun q => val s s.size q) s.size (skip s (p + 1)) :=
   membersF_congr (fun q t r hh => val_le s _ q t r hh) _ 1 _ (fun q hq => val_more s _ _ q (by omega) (by omega)) (by omega)
  rw [hc]
  cases membersF s (fun q => val s s.size q) s.size (skip s (p + 1)) with
  | none => rfl
  | some x =>
   obtain ⟨l, r⟩ := x
   simp only [Option.map_some, Bool.false_or, List.nil_append, List.map_nil]
   rw [txs, big, twice]
end
end Go.Proofs.YtndagnkhjlgjgaaGreatDoor.Pf
namespace Go.Proofs.YtndagnkhjlgjgaaGreatDoor.Pf
open Go Go.RowKit YtndagnkhjlgjgaaGreatDoorW.PrintWords Str Tree PJt
set_option linter.unusedVariables false
set_option linter.unusedSimpArgs false
theorem quoted_t (s : ByteArray) (hs : s.size ≤ 100000000) (k : Nat) (hk : 2 * s.size + 1 ≤ k) : spec_l1Quoted.f k s = some (strOfNums (quo s)) := Go.Proofs.YtndagnkhjlgjgaaGreatDoor.Tree.quoted_f s hs k hk
end Go.Proofs.YtndagnkhjlgjgaaGreatDoor.Pf
namespace Go.Proofs.YtndagnkhjlgjgaaGreatDoor.Read
open Go Go.RowKit YtndagnkhjlgjgaaGreatDoorW.PrintWords Str Tchs Tree PJt
set_option linter.unusedVariables false
set_option linter.unusedSimpArgs false
def decB (n : Nat) : ByteArray := ⟨(Lib.decDigits n).toArray⟩
theorem decB_small (n : Nat) (h : n < 10) : decB n = strOfNums [48 + (n : Int)] := by
 unfold decB
 rw [Lib.decDigits, dif_pos h]
 apply ByteArray.ext
 unfold strOfNums
 rw [List.map_cons, List.map_nil, show (48 + (n : Int)).toNat = 48 + n by omega]
theorem decB_more (n : Nat) (h : ¬ n < 10) : decB n = decB (n / 10) ++ decB (n % 10) := by
 have h2 : Lib.decDigits (n % 10) = [UInt8.ofNat (48 + n % 10)] := by rw [Lib.decDigits, dif_pos (by omega)]
 unfold decB
 rw [h2]
 conv => lhs; rw [Lib.decDigits, dif_neg h]
 apply ByteArray.ext
 simp
theorem decB_size (n : Nat) : (decB n).size ≤ n + 1 := by
 induction n using Nat.strongRecOn with
 | _ n ih =>
  by_cases h : n < 10
  ·rw [decB_small n h, strOfNums_size]; simp
  ·rw [decB_more n h, ByteArray.size_append]
   have h1 := ih (n / 10) (by omega)
   rw [decB_small (n % 10) (by omega), strOfNums_size, List.length_cons, List.length_nil]
   omega
set_option maxRecDepth 100000 in
set_option maxHeartbeats 8000000 in
theorem l1Dec (n : Nat) : ∀ (w : World), n ≤ 1000000000 →
  Calls Tryz.prog 99 #[.int .i64 (n : Int)] w fun e w' => e = .returned (.string (decB n)) ∧ Below w.heap.size w w' := by
 induction n using Nat.strongRecOn with
 | _ n ih =>
  intro w hn
  go_enter Tryz.func99, Tryz.ntmps99
  by_cases h : n < 10
  ·have d1 : decide ((n : Int) < 10) = true := decide_eq_true (by omega)
   have d1n : decide (n < 10) = true := decide_eq_true (by omega)
   have HE := Lib.hid (decB_small n h)
   have hm : (48 + (n : Int)) % 256 = 48 + (n : Int) := by omega
   have hcv := own_string (P := Tryz.prog) Tryz.underlying44 Tryz.underlying5 Tryz.underlying9 (show (w.alloc (.cells #[.int .u8 (48 + (n : Int))] 5)).ownsRow w.heap.size 5 1 (.slice (some ⟨w.heap.size, 0, none⟩) 1 1) ([48 + (n : Int)] : List Int).length (nums .u8 [48 + (n : Int)]) from ⟨rfl, .inr ⟨w.heap.size, 1, #[.int .u8 (48 + (n : Int))], rfl, Nat.le_refl _, heap_alloc_new w _, Nat.le_refl _, by decide, rfl, rfl⟩⟩)
   clear ih h
   go_wp2_with fail
   go_ret
   rw [HE.out]
   exact ⟨rfl, below_alloc (Below.refl _ _) _⟩
  ·have d1 : decide ((n : Int) < 10) = false := decide_eq_false (by omega)
   have d1n : decide (n < 10) = false := decide_eq_false (by omega)
   have HE := Lib.hid (decB_more n h)
   have H1 := Lib.hid (fun W => ih (n / 10) (by omega) W (by omega))
   have H2 := Lib.hid (fun W => ih (n % 10) (by omega) W (by omega))
   have h1 := decB_size (n / 10)
   have h2 := decB_size (n % 10)
   have e1 : ((n / 10 : Nat) : Int) = (n : Int) / 10 := by omega
   have e2 : ((n % 10 : Nat) : Int) = (n : Int) % 10 := by omega
   rw [e1] at H1
   rw [e2] at H2
   generalize decB (n / 10) = x1 at HE H1 h1
   generalize decB (n % 10) = x2 at HE H2 h2
   have a0 : x1.size + x2.size ≤ 9223372036854775807 := by omega
   have a0d : decide (x1.size + x2.size ≤ 9223372036854775807) = true := decide_eq_true a0
   have a0l : (9223372036854775807 < x1.size + x2.size) = False := eq_false (Nat.not_lt.2 a0)
   clear ih h e1 e2 h1 h2
   go_wp2_with fail
   refine (H1.out _).mono ?_
   rintro e w1 ⟨rfl, hb1⟩
   have HB1 := Lib.hid hb1
   clear hb1
   go_wp2_with fail
   refine (H2.out _).mono ?_
   rintro e w2 ⟨rfl, hb2⟩
   have HB2 := Lib.hid (below_then HB1.out HB1.out.size hb2)
   clear hb2
   go_wp2_with fail
   go_ret
   rw [HE.out]
   exact ⟨rfl, HB2.out⟩
end Go.Proofs.YtndagnkhjlgjgaaGreatDoor.Read
namespace Go.Proofs.YtndagnkhjlgjgaaGreatDoor.PJv
open Go.RowKit YtndagnkhjlgjgaaGreatDoorW.PrintWords YtndagnkhjlgjgaaGreatDoorW.PrintLast YtndagnkhjlgjgaaGreatDoorW.PrintMore
attribute [local go_sem] max2_int min2_int max_two min_two max_three min_three max_four min_four
set_option linter.unusedVariables false
set_option linter.unusedSimpArgs false
def errW : Option Int → Value
 | none => .nilIface
 | some c => .iface 0 (.int .i64 c)
theorem errW_none : errW none = .nilIface := rfl
theorem errW_some (c : Int) : errW (some c) = .iface 0 (.int .i64 c) := rfl
end Go.Proofs.YtndagnkhjlgjgaaGreatDoor.PJv
