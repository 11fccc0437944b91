-- Printed
import Derived.Test.YtndagnkhjlgjgaaGreatDoorPJsx4
import Derived.Test.YtndagnkhjlgjgaaGreatDoorPJsx5
import Derived.Test.YtndagnkhjlgjgaaGreatDoorTree
import Derived.Lib.Strings
namespace Go.Proofs.YtndagnkhjlgjgaaGreatDoor.PJs
open Go.RowKit YtndagnkhjlgjgaaGreatDoorW.PrintWords YtndagnkhjlgjgaaGreatDoorW.PrintLast YtndagnkhjlgjgaaGreatDoorW.PrintMore
attribute [local go_sem] max2_int min2_int max_two min_two max_three min_three max_four min_four
set_option linter.unusedVariables false
set_option linter.unusedSimpArgs false
end Go.Proofs.YtndagnkhjlgjgaaGreatDoor.PJs
namespace Go.Proofs.YtndagnkhjlgjgaaGreatDoor.PJs
open Go.RowKit YtndagnkhjlgjgaaGreatDoorW.PrintWords YtndagnkhjlgjgaaGreatDoorW.PrintLast YtndagnkhjlgjgaaGreatDoorW.PrintMore
attribute [local go_sem] max2_int min2_int max_two min_two max_three min_three max_four min_four
set_option linter.unusedVariables false
set_option linter.unusedSimpArgs false
end Go.Proofs.YtndagnkhjlgjgaaGreatDoor.PJs
namespace Go.Proofs.YtndagnkhjlgjgaaGreatDoor.Str
open Go.RowKit PJs YtndagnkhjlgjgaaGreatDoorW.PrintWords YtndagnkhjlgjgaaGreatDoorW.PrintLast
set_option linter.unusedVariables false
theorem w64 {n : Int} (h : -9223372036854775808 ≤ n) (h2 : n ≤ 9223372036854775807) : wrap64 n = n := by
 unfold wrap64
 omega
theorem utf8_f (r : Int) (h0 : 0 ≤ r) (h1 : r ≤ 1114111) : spec_l1Utf8.f r = some (strOfNums (u8L r)) := by
 unfold spec_l1Utf8.f u8L
 have e1 : Int.tdiv r 64 = r / 64 := Int.tdiv_eq_ediv_of_nonneg h0
 have e2 : Int.tdiv r 4096 = r / 4096 := Int.tdiv_eq_ediv_of_nonneg h0
 have e3 : Int.tdiv r 262144 = r / 262144 := Int.tdiv_eq_ediv_of_nonneg h0
 have m1 : Int.tmod r 64 = r % 64 := Int.tmod_eq_emod_of_nonneg h0
 have w1 : wrap64 (r / 64) = r / 64 := w64 (by omega) (by omega)
 have w2 : wrap64 (r / 4096) = r / 4096 := w64 (by omega) (by omega)
 have w3 : wrap64 (r / 262144) = r / 262144 := w64 (by omega) (by omega)
 have m2 : Int.tmod (r / 64) 64 = r / 64 % 64 := Int.tmod_eq_emod_of_nonneg (by omega)
 have m3 : Int.tmod (r / 4096) 64 = r / 4096 % 64 := Int.tmod_eq_emod_of_nonneg (by omega)
 rw [e1, e2, e3, m1, w1, w2, w3, m2, m3]
 have a1 : wrap64 (192 + r / 64) = 192 + r / 64 := w64 (by omega) (by omega)
 have a2 : wrap64 (128 + r % 64) = 128 + r % 64 := w64 (by omega) (by omega)
 have a3 : wrap64 (224 + r / 4096) = 224 + r / 4096 := w64 (by omega) (by omega)
 have a4 : wrap64 (128 + r / 64 % 64) = 128 + r / 64 % 64 := w64 (by omega) (by omega)
 have a5 : wrap64 (240 + r / 262144) = 240 + r / 262144 := w64 (by omega) (by omega)
 have a6 : wrap64 (128 + r / 4096 % 64) = 128 + r / 4096 % 64 := w64 (by omega) (by omega)
 rw [a1, a2, a3, a4, a5, a6]
 by_cases c1 : r < 128
 ·rw [if_pos c1, if_pos c1, show r % 256 = r by omega]
 rw [if_neg c1, if_neg c1]
 by_cases c2 : r < 2048
 ·rw [if_pos c2, if_pos c2, show (192 + r / 64) % 256 = 192 + r / 64 by omega, show (128 + r % 64) % 256 = 128 + r % 64 by omega]
 rw [if_neg c2, if_neg c2]
 by_cases c3 : r < 65536
 ·rw [if_pos c3, if_pos c3, show (224 + r / 4096) % 256 = 224 + r / 4096 by omega, show (128 + r / 64 % 64) % 256 = 128 + r / 64 % 64 by omega, show (128 + r % 64) % 256 = 128 + r % 64 by omega]
 ·rw [if_neg c3, if_neg c3, show (240 + r / 262144) % 256 = 240 + r / 262144 by omega, show (128 + r / 4096 % 64) % 256 = 128 + r / 4096 % 64 by omega, show (128 + r / 64 % 64) % 256 = 128 + r / 64 % 64 by omega, show (128 + r % 64) % 256 = 128 + r % 64 by omega]
theorem byte_inj {x y : Int} (hx0 : 0 ≤ x) (hx : x ≤ 255) (hy0 : 0 ≤ y) (hy : y ≤ 255) (h : UInt8.ofNat x.toNat = UInt8.ofNat y.toNat) : x = y := by
 have h2 := congrArg UInt8.toNat h
 simp only [UInt8.toNat_ofNat'] at h2
 omega
theorem strOf_inj : ∀ {xs ys : List Int}, (∀ x ∈ xs, 0 ≤ x ∧ x ≤ 255) → (∀ y ∈ ys, 0 ≤ y ∧ y ≤ 255) → (xs.map fun n => UInt8.ofNat n.toNat) = (ys.map fun n => UInt8.ofNat n.toNat) → xs = ys
 | [], [], _, _, _ => rfl
 | [], _ :: _, _, _, h => by simp at h
 | _ :: _, [], _, _, h => by simp at h
 | x :: xs, y :: ys, hx, hy, h => by
  simp only [List.map_cons, List.cons.injEq] at h
  rw [byte_inj (hx x (by simp)).1 (hx x (by simp)).2 (hy y (by simp)).1 (hy y (by simp)).2 h.1, strOf_inj (fun z hz => hx z (by simp [hz])) (fun z hz => hy z (by simp [hz])) h.2]
theorem bt_byte (s : ByteArray) (p : Nat) (h : p < s.size) : UInt8.ofNat (bt s (p : Int)).toNat = s.data.toList[p]'(by rw [Array.length_toList]; exact h) := by
 have e : bt s (p : Int) = ((s[p]'h).toNat : Int) := by simp [bt, h]
 rw [e]
 simp
 rfl
theorem cut_list (s : ByteArray) : ∀ (n p : Nat), p + n ≤ s.size → ((s.data.toList.drop p).take n) = (btsL s (p : Int) n).map fun x => UInt8.ofNat x.toNat
 | 0, p, h => by simp [btsL]
 | n + 1, p, h => by
  have hp : p < s.data.toList.length := by rw [Array.length_toList]; exact (by omega : p < s.size)
  rw [List.drop_eq_getElem_cons hp, List.take_succ_cons, btsL, List.map_cons, bt_byte s p (by omega)]
  have := cut_list s n (p + 1) (by omega)
  rw [this]
  rfl
theorem btsL_range (s : ByteArray) : ∀ (n : Nat) (p : Int), ∀ x ∈ btsL s p n, 0 ≤ x ∧ x ≤ 255
 | 0, p, x, h => by simp [btsL] at h
 | n + 1, p, x, h => by
  simp only [btsL, List.mem_cons] at h
  rcases h with rfl | h
  ·exact bt_range s p
  ·exact btsL_range s n (p + 1) x h
theorem u8L_range (r : Int) (h0 : 0 ≤ r) (h1 : r ≤ 1114111) : ∀ x ∈ u8L r, 0 ≤ x ∧ x ≤ 255 := by
 intro x hx
 unfold u8L at hx
 repeat' split at hx
 all_goals
  simp only [List.mem_cons, List.not_mem_nil, or_false] at hx
  omega
theorem utf8_same (s : ByteArray) (p n : Nat) (r : Int) (h0 : 0 ≤ r) (h1 : r ≤ 1114111) (hp : p + n ≤ s.size) :
  ((strOfNums (u8L r)).toList = (s.extract p (p + n)).toList) ↔ u8L r = btsL s p n := by
 rw [Lib.toList_data, Lib.toList_data]
 have e1 : (strOfNums (u8L r)).data.toList = (u8L r).map fun n => UInt8.ofNat n.toNat := by simp [strOfNums]
 have e2 : (s.extract p (p + n)).data.toList = (s.data.toList.drop p).take n := by simp
 rw [e1, e2, cut_list s n p hp]
 constructor
 ·exact strOf_inj (u8L_range r h0 h1) (btsL_range s n p)
 ·intro h; rw [h]
section
variable (s : ByteArray) (p : Nat) (hs : s.size ≤ 1048576)
include hs
theorem rl_cont (k n j : Nat) (r : Int) (hj : j < n) (hn : n ≤ 4) (hin : p + j < s.size) (hb1 : 128 ≤ bt s ((p : Int) + j)) (hb2 : bt s ((p : Int) + j) < 192) (h0 : 0 ≤ r) (h1 : r ≤ 100000000) :
  spec_l1RuneLen.l0 (k + 1) s p n r j = spec_l1RuneLen.l0 k s p n (r * 64 + bt s ((p : Int) + j) - 128) ((j : Int) + 1) := by
 simp only [spec_l1RuneLen.l0]
 have w1 : wrap64 ((p : Int) + j) = (p : Int) + j := w64 (by omega) (by omega)
 have c1 : (j : Int) < (n : Int) := by omega
 have c2 : 0 ≤ (p : Int) + j := by omega
 have c3 : (p : Int) + j < (s.size : Int) := by omega
 rw [w1, if_pos c1, if_pos c2, if_pos c3]
 clear w1 c1 c2 c3
 generalize bt s ((p : Int) + j) = b at *
 rw [if_neg (show ¬ b < 128 by omega), if_neg (show ¬ b ≥ 192 by omega)]
 have w2 : wrap64 (r * 64) = r * 64 := w64 (by omega) (by omega)
 have w3 : wrap64 b = b := w64 (by omega) (by omega)
 have w4 : wrap64 (r * 64 + b) = r * 64 + b := w64 (by omega) (by omega)
 have w5 : wrap64 (r * 64 + b - 128) = r * 64 + b - 128 := w64 (by omega) (by omega)
 have w6 : wrap64 ((j : Int) + 1) = (j : Int) + 1 := w64 (by omega) (by omega)
 rw [w2, w3, w4, w5, w6]
theorem rl_bad (k n j : Nat) (r : Int) (hj : j < n) (hin : p + j < s.size) (hb : bt s ((p : Int) + j) < 128 ∨ 192 ≤ bt s ((p : Int) + j)) :
  spec_l1RuneLen.l0 (k + 1) s p n r j = some 0 := by
 simp only [spec_l1RuneLen.l0]
 have w1 : wrap64 ((p : Int) + j) = (p : Int) + j := w64 (by omega) (by omega)
 rw [w1]
 generalize bt s ((p : Int) + j) = b at *
 rw [if_pos (by omega), if_pos (by omega), if_pos (by omega)]
 rcases hb with hb | hb
 ·rw [if_pos hb]
 ·rw [if_neg (by omega), if_pos (by omega)]
theorem rl_end (k n : Nat) (r : Int) (h0 : 0 ≤ r) (hn : n ≤ 4) (hin : p + n ≤ s.size) :
  spec_l1RuneLen.l0 (k + 1) s p n r n = some (if r > 1114111 then 0 else if 55296 ≤ r ∧ r < 57344 then 0 else if u8L r = btsL s p n then (n : Int) else 0) := by
 simp only [spec_l1RuneLen.l0]
 rw [if_neg (by omega)]
 by_cases c1 : r > 1114111
 ·rw [if_pos c1, if_pos c1]
 rw [if_neg c1, if_neg c1]
 have w1 : wrap64 ((p : Int) + n) = (p : Int) + n := w64 (by omega) (by omega)
 have key : ((spec_l1Utf8.f r).bind fun t114 => (if 0 ≤ (p : Int) then (if (p : Int) ≤ (wrap64 ((p : Int) + n)) then (if (wrap64 ((p : Int) + n)) ≤ (s.size : Int) then (if t114.toList = (s.extract ((p : Int) : Int).toNat ((wrap64 ((p : Int) + n)) : Int).toNat).toList then (some (n : Int)) else (some 0)) else (none)) else (none)) else (none))) = some (if u8L r = btsL s p n then (n : Int) else 0) := by
  rw [utf8_f r h0 (by omega), Option.bind_some, w1, if_pos (by omega), if_pos (by omega), if_pos (by omega)]
  have e : ((p : Int) + (n : Int)).toNat = p + n := by omega
  have e2 : ((p : Int)).toNat = p := by omega
  rw [e, e2]
  by_cases c : u8L r = btsL s p n
  ·rw [if_pos c, if_pos ((utf8_same s p n r h0 (by omega) hin).2 c)]
  ·rw [if_neg c, if_neg (fun h => c ((utf8_same s p n r h0 (by omega) hin).1 h))]
 by_cases c2 : r ≥ 55296
 ·rw [if_pos c2]
  by_cases c3 : r < 57344
  ·rw [if_pos c3, if_pos ⟨c2, c3⟩]
  ·rw [if_neg c3, if_neg (fun h => c3 h.2)]
   exact key
 ·rw [if_neg c2, if_neg (fun h => c2 h.1)]
  exact key
end
def nb (s : ByteArray) (i : Nat) : Nat := (s.get! i).toNat
theorem nb_bt (s : ByteArray) (i : Nat) : (nb s i : Int) = bt s (i : Int) := by
 unfold nb bt
 by_cases h : i < s.size
 ·have e : s.get! i = s[i]'h := by
   simp [ByteArray.get!, getElem!_pos, h]
   rfl
  rw [e]
  simp [h]
 ·have e : s.get! i = 0 := by
   show s.data[i]! = 0
   rw [getElem!_neg s.data i h]
   rfl
  rw [e]
  simp [h]
def finN (n : Nat) (r : Int) (l : List Int) : Int := if r > 1114111 then 0 else if 55296 ≤ r ∧ r < 57344 then 0 else if u8L r = l then (n : Int) else 0
def rlN (n : Nat) (a b c d : Int) : Int :=
 if a ≥ 240 then (if n < 4 then 0 else if b < 128 ∨ 192 ≤ b then 0 else if c < 128 ∨ 192 ≤ c then 0 else if d < 128 ∨ 192 ≤ d then 0 else finN 4 ((((a - 240) * 64 + b - 128) * 64 + c - 128) * 64 + d - 128) [a, b, c, d])
 else if a ≥ 224 then (if n < 3 then 0 else if b < 128 ∨ 192 ≤ b then 0 else if c < 128 ∨ 192 ≤ c then 0 else finN 3 (((a - 224) * 64 + b - 128) * 64 + c - 128) [a, b, c])
 else if a ≥ 192 then (if n < 2 then 0 else if b < 128 ∨ 192 ≤ b then 0 else finN 2 ((a - 192) * 64 + b - 128) [a, b])
 else if a ≥ 128 then 0 else finN 1 a [a]
theorem rl_all (s : ByteArray) (p : Nat) (hs : s.size ≤ 1048576) (hp : p < s.size) (k : Nat) (hk : 8 ≤ k) :
  spec_l1RuneLen.f k s (p : Int) = some (rlN (s.size - p) (bt s (p : Int)) (bt s ((p : Int) + (1 : Nat))) (bt s ((p : Int) + (2 : Nat))) (bt s ((p : Int) + (3 : Nat)))) := by
 obtain ⟨k, rfl⟩ : ∃ m, k = m + 8 := ⟨k - 8, by omega⟩
 unfold spec_l1RuneLen.f rlN
 rw [if_pos (by omega), if_pos (by omega)]
 have ra := bt_range s (p : Int)
 have rb := bt_range s ((p : Int) + (1 : Nat))
 have rc := bt_range s ((p : Int) + (2 : Nat))
 have rd_ := bt_range s ((p : Int) + (3 : Nat))
 have w0 : wrap64 (bt s (p : Int)) = bt s (p : Int) := w64 (by omega) (by omega)
 rw [w0]
 clear w0
 have l1 : btsL s p 1 = [bt s (p : Int)] := rfl
 have l2 : btsL s p 2 = [bt s (p : Int), bt s ((p : Int) + (1 : Nat))] := rfl
 have l3 : btsL s p 3 = [bt s (p : Int), bt s ((p : Int) + (1 : Nat)), bt s ((p : Int) + (2 : Nat))] := by
  show [bt s (p : Int), bt s ((p : Int) + 1), bt s ((p : Int) + 1 + 1)] = _
  rw [Int.add_assoc]
  rfl
 have l4 : btsL s p 4 = [bt s (p : Int), bt s ((p : Int) + (1 : Nat)), bt s ((p : Int) + (2 : Nat)), bt s ((p : Int) + (3 : Nat))] := by
  show [bt s (p : Int), bt s ((p : Int) + 1), bt s ((p : Int) + 1 + 1), bt s ((p : Int) + 1 + 1 + 1)] = _
  rw [Int.add_assoc, Int.add_assoc]
  rfl
 by_cases c1 : bt s (p : Int) ≥ 240
 ·rw [if_pos c1, if_pos c1, w64 (by omega) (by omega)]
  simp only [spec_l1RuneLen.j0]
  have w4 : wrap64 ((p : Int) + 4) = (p : Int) + 4 := w64 (by omega) (by omega)
  rw [w4]
  clear w4
  by_cases c2 : s.size - p < 4
  ·rw [if_pos c2, if_pos (by omega)]
  rw [if_neg c2, if_neg (by omega)]
  by_cases c3 : bt s ((p : Int) + (1 : Nat)) < 128 ∨ 192 ≤ bt s ((p : Int) + (1 : Nat))
  ·rw [if_pos c3]
   exact rl_bad s p hs _ 4 1 _ (by omega) (by omega) c3
  rw [if_neg c3]
  have s1 := rl_cont s p hs (k + 6) 4 1 (bt s (p : Int) - 240) (by omega) (by omega) (by omega) (by omega) (by omega) (by omega) (by omega)
  refine s1.trans ?_
  by_cases c4 : bt s ((p : Int) + (2 : Nat)) < 128 ∨ 192 ≤ bt s ((p : Int) + (2 : Nat))
  ·rw [if_pos c4]
   exact rl_bad s p hs _ 4 2 _ (by omega) (by omega) c4
  rw [if_neg c4]
  have s2 := rl_cont s p hs (k + 5) 4 2 ((bt s (p : Int) - 240) * 64 + bt s ((p : Int) + (1 : Nat)) - 128) (by omega) (by omega) (by omega) (by omega) (by omega) (by omega) (by omega)
  refine s2.trans ?_
  by_cases c5 : bt s ((p : Int) + (3 : Nat)) < 128 ∨ 192 ≤ bt s ((p : Int) + (3 : Nat))
  ·rw [if_pos c5]
   exact rl_bad s p hs _ 4 3 _ (by omega) (by omega) c5
  rw [if_neg c5]
  have s3 := rl_cont s p hs (k + 4) 4 3 (((bt s (p : Int) - 240) * 64 + bt s ((p : Int) + (1 : Nat)) - 128) * 64 + bt s ((p : Int) + (2 : Nat)) - 128) (by omega) (by omega) (by omega) (by omega) (by omega) (by omega) (by omega)
  refine s3.trans ?_
  refine (rl_end s p hs (k + 3) 4 _ (by omega) (by omega) (by omega)).trans ?_
  rw [l4]
  rfl
 rw [if_neg c1, if_neg c1]
 by_cases c6 : bt s (p : Int) ≥ 224
 ·rw [if_pos c6, if_pos c6, w64 (by omega) (by omega)]
  simp only [spec_l1RuneLen.j0]
  have w4 : wrap64 ((p : Int) + 3) = (p : Int) + 3 := w64 (by omega) (by omega)
  rw [w4]
  clear w4
  by_cases c2 : s.size - p < 3
  ·rw [if_pos c2, if_pos (by omega)]
  rw [if_neg c2, if_neg (by omega)]
  by_cases c3 : bt s ((p : Int) + (1 : Nat)) < 128 ∨ 192 ≤ bt s ((p : Int) + (1 : Nat))
  ·rw [if_pos c3]
   exact rl_bad s p hs _ 3 1 _ (by omega) (by omega) c3
  rw [if_neg c3]
  have s1 := rl_cont s p hs (k + 6) 3 1 (bt s (p : Int) - 224) (by omega) (by omega) (by omega) (by omega) (by omega) (by omega) (by omega)
  refine s1.trans ?_
  by_cases c4 : bt s ((p : Int) + (2 : Nat)) < 128 ∨ 192 ≤ bt s ((p : Int) + (2 : Nat))
  ·rw [if_pos c4]
   exact rl_bad s p hs _ 3 2 _ (by omega) (by omega) c4
  rw [if_neg c4]
  have s2 := rl_cont s p hs (k + 5) 3 2 ((bt s (p : Int) - 224) * 64 + bt s ((p : Int) + (1 : Nat)) - 128) (by omega) (by omega) (by omega) (by omega) (by omega) (by omega) (by omega)
  refine s2.trans ?_
  refine (rl_end s p hs (k + 4) 3 _ (by omega) (by omega) (by omega)).trans ?_
  rw [l3]
  rfl
 rw [if_neg c6, if_neg c6]
 by_cases c7 : bt s (p : Int) ≥ 192
 ·rw [if_pos c7, if_pos c7, w64 (by omega) (by omega)]
  simp only [spec_l1RuneLen.j0]
  have w4 : wrap64 ((p : Int) + 2) = (p : Int) + 2 := w64 (by omega) (by omega)
  rw [w4]
  clear w4
  by_cases c2 : s.size - p < 2
  ·rw [if_pos c2, if_pos (by omega)]
  rw [if_neg c2, if_neg (by omega)]
  by_cases c3 : bt s ((p : Int) + (1 : Nat)) < 128 ∨ 192 ≤ bt s ((p : Int) + (1 : Nat))
  ·rw [if_pos c3]
   exact rl_bad s p hs _ 2 1 _ (by omega) (by omega) c3
  rw [if_neg c3]
  have s1 := rl_cont s p hs (k + 6) 2 1 (bt s (p : Int) - 192) (by omega) (by omega) (by omega) (by omega) (by omega) (by omega) (by omega)
  refine s1.trans ?_
  refine (rl_end s p hs (k + 5) 2 _ (by omega) (by omega) (by omega)).trans ?_
  rw [l2]
  rfl
 rw [if_neg c7, if_neg c7]
 by_cases c8 : bt s (p : Int) ≥ 128
 ·rw [if_pos c8, if_pos c8]
 rw [if_neg c8, if_neg c8]
 simp only [spec_l1RuneLen.j0]
 have w4 : wrap64 ((p : Int) + 1) = (p : Int) + 1 := w64 (by omega) (by omega)
 rw [w4, if_neg (by omega)]
 have w5 : wrap64 (bt s (p : Int)) = bt s (p : Int) := w64 (by omega) (by omega)
 refine (rl_end s p hs (k + 6) 1 _ (by omega) (by omega) (by omega)).trans ?_
 rw [l1]
 rfl
theorem u8a {r : Int} (h : r < 128) : u8L r = [r] := by unfold u8L; rw [if_pos h]
theorem u8b {r : Int} (h0 : 128 ≤ r) (h : r < 2048) : u8L r = [192 + r / 64, 128 + r % 64] := by unfold u8L; rw [if_neg (by omega), if_pos h]
theorem u8c {r : Int} (h0 : 2048 ≤ r) (h : r < 65536) : u8L r = [224 + r / 4096, 128 + r / 64 % 64, 128 + r % 64] := by unfold u8L; rw [if_neg (by omega), if_neg (by omega), if_pos h]
theorem u8d {r : Int} (h0 : 65536 ≤ r) : u8L r = [240 + r / 262144, 128 + r / 4096 % 64, 128 + r / 64 % 64, 128 + r % 64] := by unfold u8L; rw [if_neg (by omega), if_neg (by omega), if_neg (by omega)]
theorem fin_ok {n : Nat} {r : Int} {l : List Int} (h0 : ¬ r > 1114111) (h1 : ¬ (55296 ≤ r ∧ r < 57344)) (h : u8L r = l) : finN n r l = n := by unfold finN; rw [if_neg h0, if_neg h1, if_pos h]
theorem fin_no {n : Nat} {r : Int} {l : List Int} (h : ¬ u8L r = l) : finN n r l = 0 := by
 unfold finN
 by_cases c : r > 1114111
 ·rw [if_pos c]
 by_cases c1 : 55296 ≤ r ∧ r < 57344
 ·rw [if_neg c, if_pos c1]
 ·rw [if_neg c, if_neg c1, if_neg h]
theorem fin1 (a : Int) (h0 : 0 ≤ a) (h1 : a < 128) : finN 1 a [a] = 1 := fin_ok (by omega) (by omega) (u8a h1)
theorem fin2 (a b : Int) (a0 : 192 ≤ a) (a1 : a < 224) (b0 : 128 ≤ b) (b1 : b < 192) : finN 2 ((a - 192) * 64 + b - 128) [a, b] = if (a - 192) * 64 + b - 128 ≥ 128 then 2 else 0 := by
 generalize hr : (a - 192) * 64 + b - 128 = r
 by_cases c : r ≥ 128
 ·rw [if_pos c]
  exact fin_ok (by omega) (by omega) (by rw [u8b c (by omega)]; simp; omega)
 ·rw [if_neg c]
  exact fin_no (by rw [u8a (by omega)]; simp)
theorem fin3 (a b c : Int) (a0 : 224 ≤ a) (a1 : a < 240) (b0 : 128 ≤ b) (b1 : b < 192) (c0 : 128 ≤ c) (c1 : c < 192) :
  finN 3 (((a - 224) * 64 + b - 128) * 64 + c - 128) [a, b, c] = if ((a - 224) * 64 + b - 128) * 64 + c - 128 ≥ 2048 ∧ ¬ (55296 ≤ ((a - 224) * 64 + b - 128) * 64 + c - 128 ∧ ((a - 224) * 64 + b - 128) * 64 + c - 128 < 57344) then 3 else 0 := by
 generalize hr : ((a - 224) * 64 + b - 128) * 64 + c - 128 = r
 by_cases e : 55296 ≤ r ∧ r < 57344
 ·rw [if_neg (by omega)]
  unfold finN
  rw [if_neg (by omega), if_pos e]
 by_cases f : r ≥ 2048
 ·rw [if_pos ⟨f, e⟩]
  exact fin_ok (by omega) e (by rw [u8c f (by omega)]; simp; omega)
 ·rw [if_neg (by omega)]
  by_cases g : r < 128
  ·exact fin_no (by rw [u8a g]; simp)
  ·exact fin_no (by rw [u8b (by omega) (by omega)]; simp)
theorem fin4 (a b c d : Int) (a0 : 240 ≤ a) (a1 : a ≤ 255) (b0 : 128 ≤ b) (b1 : b < 192) (c0 : 128 ≤ c) (c1 : c < 192) (d0 : 128 ≤ d) (d1 : d < 192) :
  finN 4 ((((a - 240) * 64 + b - 128) * 64 + c - 128) * 64 + d - 128) [a, b, c, d] = if (((a - 240) * 64 + b - 128) * 64 + c - 128) * 64 + d - 128 ≥ 65536 ∧ (((a - 240) * 64 + b - 128) * 64 + c - 128) * 64 + d - 128 ≤ 1114111 then 4 else 0 := by
 generalize hr : (((a - 240) * 64 + b - 128) * 64 + c - 128) * 64 + d - 128 = r
 by_cases e : r > 1114111
 ·rw [if_neg (by omega)]
  unfold finN
  rw [if_pos e]
 by_cases f : r ≥ 65536
 ·rw [if_pos (by omega)]
  exact fin_ok e (by omega) (by rw [u8d f]; simp; omega)
 ·rw [if_neg (by omega)]
  by_cases g : r < 128
  ·exact fin_no (by rw [u8a g]; simp)
  by_cases g2 : r < 2048
  ·exact fin_no (by rw [u8b (by omega) g2]; simp)
  ·exact fin_no (by rw [u8c (by omega) (by omega)]; simp)
def decN (n a b c d : Nat) : Nat × Nat :=
 if a < 128 then (a, 1)
 else if a / 32 = 6 ∧ (1 < n ∧ b / 64 = 2) then (if a % 32 * 64 + b % 64 ≥ 128 then (a % 32 * 64 + b % 64, 2) else (65533, 1))
 else if a / 16 = 14 ∧ (1 < n ∧ b / 64 = 2) ∧ (2 < n ∧ c / 64 = 2) then
  (if a % 16 * 4096 + b % 64 * 64 + c % 64 ≥ 2048 ∧ (a % 16 * 4096 + b % 64 * 64 + c % 64 < 55296 ∨ 57344 ≤ a % 16 * 4096 + b % 64 * 64 + c % 64 ∧ a % 16 * 4096 + b % 64 * 64 + c % 64 ≤ 1114111) then (a % 16 * 4096 + b % 64 * 64 + c % 64, 3) else (65533, 1))
 else if a / 8 = 30 ∧ (1 < n ∧ b / 64 = 2) ∧ (2 < n ∧ c / 64 = 2) ∧ (3 < n ∧ d / 64 = 2) then
  (if a % 8 * 262144 + b % 64 * 4096 + c % 64 * 64 + d % 64 ≥ 65536 ∧ (a % 8 * 262144 + b % 64 * 4096 + c % 64 * 64 + d % 64 < 55296 ∨ 57344 ≤ a % 8 * 262144 + b % 64 * 4096 + c % 64 * 64 + d % 64 ∧ a % 8 * 262144 + b % 64 * 4096 + c % 64 * 64 + d % 64 ≤ 1114111) then (a % 8 * 262144 + b % 64 * 4096 + c % 64 * 64 + d % 64, 4) else (65533, 1))
 else (65533, 1)
theorem valid_iff (r : Nat) : Utf8.valid (r : Int) = decide (r < 55296 ∨ 57344 ≤ r ∧ r ≤ 1114111) := by
 unfold Utf8.valid
 rw [Bool.eq_iff_iff]
 simp
 omega
theorem dec_eq (s : ByteArray) (p : Nat) : Utf8.decode s p = decN (s.size - p) (nb s p) (nb s (p + 1)) (nb s (p + 2)) (nb s (p + 3)) := by
 have h1 : (p + 1 < s.size) ↔ (1 < s.size - p) := by omega
 have h2 : (p + 2 < s.size) ↔ (2 < s.size - p) := by omega
 have h3 : (p + 3 < s.size) ↔ (3 < s.size - p) := by omega
 unfold Utf8.decode decN nb
 simp only [Nat.add_zero, h1, h2, h3, Bool.and_eq_true, decide_eq_true_eq, beq_iff_eq, valid_iff, Utf8.runeError]
 simp only [and_assoc]
theorem core_ (n a b c d : Nat) (hn : 1 ≤ n) (ha : a ≤ 255) (hb : b ≤ 255) (hc : c ≤ 255) (hd : d ≤ 255) :
  rlN n a b c d = if (decN n a b c d).1 = 65533 ∧ ¬ (3 ≤ n ∧ a = 239 ∧ b = 191 ∧ c = 189) then 0 else ((decN n a b c d).2 : Int) := by
 by_cases r1 : a < 128
 ·unfold rlN decN
  rw [if_neg (by omega), if_neg (by omega), if_neg (by omega), if_neg (by omega), if_pos r1, if_neg (by simp; omega)]
  exact fin1 a (by omega) (by omega)
 have dbad : ∀ m, decN n a b c d = m → m = (65533, 1) → ¬ (3 ≤ n ∧ a = 239 ∧ b = 191 ∧ c = 189) → rlN n a b c d = 0 → rlN n a b c d = if (decN n a b c d).1 = 65533 ∧ ¬ (3 ≤ n ∧ a = 239 ∧ b = 191 ∧ c = 189) then 0 else ((decN n a b c d).2 : Int) := by
  intro m e1 e2 e3 e4
  rw [e4, e1, e2, if_pos ⟨rfl, e3⟩]
 by_cases r2 : a < 192
 ·refine dbad (65533, 1) ?_ rfl (by omega) ?_
  ·unfold decN
   rw [if_neg r1, if_neg (by omega), if_neg (by omega), if_neg (by omega)]
  ·unfold rlN
   rw [if_neg (by omega), if_neg (by omega), if_neg (by omega), if_pos (by omega)]
 by_cases r3 : a < 224
 ·by_cases q : 1 < n ∧ b / 64 = 2
  ·have e : decN n a b c d = if a % 32 * 64 + b % 64 ≥ 128 then (a % 32 * 64 + b % 64, 2) else (65533, 1) := by
    unfold decN
    rw [if_neg r1, if_pos (by omega)]
   have f : rlN n a b c d = if ((a : Int) - 192) * 64 + b - 128 ≥ 128 then 2 else 0 := by
    unfold rlN
    rw [if_neg (by omega), if_neg (by omega), if_pos (by omega), if_neg (by omega), if_neg (by omega)]
    exact fin2 a b (by omega) (by omega) (by omega) (by omega)
   by_cases g : a % 32 * 64 + b % 64 ≥ 128
   ·rw [e, f, if_pos g, if_pos (by omega), if_neg (by simp; omega)]
    rfl
   ·rw [if_neg g] at e
    rw [if_neg (by omega)] at f
    exact dbad _ e rfl (by omega) f
  ·refine dbad (65533, 1) ?_ rfl (by omega) ?_
   ·unfold decN
    rw [if_neg r1, if_neg (by omega), if_neg (by omega), if_neg (by omega)]
   ·unfold rlN
    rw [if_neg (by omega), if_neg (by omega), if_pos (by omega)]
    by_cases g : n < 2
    ·rw [if_pos g]
    ·rw [if_neg g, if_pos (by omega)]
 by_cases r4 : a < 240
 ·by_cases q : (1 < n ∧ b / 64 = 2) ∧ (2 < n ∧ c / 64 = 2)
  ·have e : decN n a b c d = if a % 16 * 4096 + b % 64 * 64 + c % 64 ≥ 2048 ∧ (a % 16 * 4096 + b % 64 * 64 + c % 64 < 55296 ∨ 57344 ≤ a % 16 * 4096 + b % 64 * 64 + c % 64 ∧ a % 16 * 4096 + b % 64 * 64 + c % 64 ≤ 1114111) then (a % 16 * 4096 + b % 64 * 64 + c % 64, 3) else (65533, 1) := by
    unfold decN
    rw [if_neg r1, if_neg (by omega), if_pos (by omega)]
   have f := fin3 a b c (by omega) (by omega) (by omega) (by omega) (by omega) (by omega)
   have f2 : rlN n a b c d = finN 3 ((((a : Int) - 224) * 64 + b - 128) * 64 + c - 128) [(a : Int), b, c] := by
    unfold rlN
    rw [if_neg (by omega), if_pos (by omega), if_neg (by omega), if_neg (by omega), if_neg (by omega)]
   by_cases g : a % 16 * 4096 + b % 64 * 64 + c % 64 ≥ 2048 ∧ (a % 16 * 4096 + b % 64 * 64 + c % 64 < 55296 ∨ 57344 ≤ a % 16 * 4096 + b % 64 * 64 + c % 64 ∧ a % 16 * 4096 + b % 64 * 64 + c % 64 ≤ 1114111)
   ·rw [if_pos g] at e
    rw [if_pos (by omega)] at f
    rw [f2, f, e, if_neg (by simp only; omega)]
    rfl
   ·rw [if_neg g] at e
    rw [if_neg (by omega)] at f
    exact dbad _ e rfl (by omega) (f2.trans f)
  ·refine dbad (65533, 1) ?_ rfl (by omega) ?_
   ·unfold decN
    rw [if_neg r1, if_neg (by omega), if_neg (by omega), if_neg (by omega)]
   ·unfold rlN
    rw [if_neg (by omega), if_pos (by omega)]
    by_cases g : n < 3
    ·rw [if_pos g]
    rw [if_neg g]
    by_cases g2 : (b : Int) < 128 ∨ 192 ≤ (b : Int)
    ·rw [if_pos g2]
    ·rw [if_neg g2, if_pos (by omega)]
 ·by_cases q : a < 248 ∧ (1 < n ∧ b / 64 = 2) ∧ (2 < n ∧ c / 64 = 2) ∧ (3 < n ∧ d / 64 = 2)
  ·have e : decN n a b c d = if a % 8 * 262144 + b % 64 * 4096 + c % 64 * 64 + d % 64 ≥ 65536 ∧ (a % 8 * 262144 + b % 64 * 4096 + c % 64 * 64 + d % 64 < 55296 ∨ 57344 ≤ a % 8 * 262144 + b % 64 * 4096 + c % 64 * 64 + d % 64 ∧ a % 8 * 262144 + b % 64 * 4096 + c % 64 * 64 + d % 64 ≤ 1114111) then (a % 8 * 262144 + b % 64 * 4096 + c % 64 * 64 + d % 64, 4) else (65533, 1) := by
    unfold decN
    rw [if_neg r1, if_neg (by omega), if_neg (by omega), if_pos (by omega)]
   have f := fin4 a b c d (by omega) (by omega) (by omega) (by omega) (by omega) (by omega) (by omega) (by omega)
   have f2 : rlN n a b c d = finN 4 (((((a : Int) - 240) * 64 + b - 128) * 64 + c - 128) * 64 + d - 128) [(a : Int), b, c, d] := by
    unfold rlN
    rw [if_pos (by omega), if_neg (by omega), if_neg (by omega), if_neg (by omega), if_neg (by omega)]
   by_cases g : a % 8 * 262144 + b % 64 * 4096 + c % 64 * 64 + d % 64 ≥ 65536 ∧ (a % 8 * 262144 + b % 64 * 4096 + c % 64 * 64 + d % 64 < 55296 ∨ 57344 ≤ a % 8 * 262144 + b % 64 * 4096 + c % 64 * 64 + d % 64 ∧ a % 8 * 262144 + b % 64 * 4096 + c % 64 * 64 + d % 64 ≤ 1114111)
   ·rw [if_pos g] at e
    rw [if_pos (by omega)] at f
    rw [f2, f, e, if_neg (by simp only; omega)]
    rfl
   ·rw [if_neg g] at e
    rw [if_neg (by omega)] at f
    exact dbad _ e rfl (by omega) (f2.trans f)
  ·refine dbad (65533, 1) ?_ rfl (by omega) ?_
   ·unfold decN
    rw [if_neg r1, if_neg (by omega), if_neg (by omega), if_neg (by omega)]
   ·unfold rlN
    rw [if_pos (by omega)]
    by_cases g : n < 4
    ·rw [if_pos g]
    rw [if_neg g]
    by_cases g2 : (b : Int) < 128 ∨ 192 ≤ (b : Int)
    ·rw [if_pos g2]
    rw [if_neg g2]
    by_cases g3 : (c : Int) < 128 ∨ 192 ≤ (c : Int)
    ·rw [if_pos g3]
    rw [if_neg g3]
    by_cases g4 : (d : Int) < 128 ∨ 192 ≤ (d : Int)
    ·rw [if_pos g4]
    rw [if_neg g4]
    unfold finN
    rw [if_pos (by omega)]
theorem dec_le4 (n a b c d : Nat) : (decN n a b c d).2 ≤ 4 := by
 unfold decN
 repeat' split
 all_goals simp
theorem decN_bad (n a b c d : Nat) (ha : a ≤ 255) (hb : b ≤ 255) (hc : c ≤ 255) : ((decN n a b c d).1 = 65533 ∧ ¬ (3 ≤ n ∧ a = 239 ∧ b = 191 ∧ c = 189)) ↔ ((decN n a b c d).1 = 65533 ∧ (decN n a b c d).2 < 2) := by
 unfold decN
 repeat' split
 all_goals simp only [true_and, Nat.lt_irrefl]
 all_goals (try simp only [reduceCtorEq])
 all_goals omega
theorem rl_dec (s : ByteArray) (p : Nat) (hs : s.size ≤ 1048576) (hp : p < s.size) (k : Nat) (hk : 8 ≤ k) :
  spec_l1RuneLen.f k s (p : Int) = some (if badR s p = true then 0 else ((Utf8.decode s p).2 : Int)) := by
 have hb : ∀ i, nb s i ≤ 255 := by
  intro i
  have := bt_range s (i : Int)
  have := nb_bt s i
  omega
 have e := core_ (s.size - p) (nb s p) (nb s (p + 1)) (nb s (p + 2)) (nb s (p + 3)) (by omega) (hb _) (hb _) (hb _) (hb _)
 have ed := decN_bad (s.size - p) (nb s p) (nb s (p + 1)) (nb s (p + 2)) (nb s (p + 3)) (hb _) (hb _) (hb _)
 rw [rl_all s p hs hp k hk]
 unfold badR
 rw [dec_eq]
 rw [nb_bt, nb_bt, nb_bt, nb_bt] at e
 have e2 : ((((decN (s.size - p) (nb s p) (nb s (p + 1)) (nb s (p + 2)) (nb s (p + 3))).1 == 65533) && decide ((decN (s.size - p) (nb s p) (nb s (p + 1)) (nb s (p + 2)) (nb s (p + 3))).2 < 2)) = true) ↔ ((decN (s.size - p) (nb s p) (nb s (p + 1)) (nb s (p + 2)) (nb s (p + 3))).1 = 65533 ∧ ¬ (3 ≤ s.size - p ∧ nb s p = 239 ∧ nb s (p + 1) = 191 ∧ nb s (p + 2) = 189)) := by
  rw [ed]
  simp
 by_cases h : (decN (s.size - p) (nb s p) (nb s (p + 1)) (nb s (p + 2)) (nb s (p + 3))).1 = 65533 ∧ ¬ (3 ≤ s.size - p ∧ nb s p = 239 ∧ nb s (p + 1) = 191 ∧ nb s (p + 2) = 189)
 ·rw [if_pos h] at e
  rw [if_pos (e2.2 h), ← e]
  rfl
 ·rw [if_neg h] at e
  rw [if_neg (fun hh => h (e2.1 hh)), ← e]
  rfl
end Go.Proofs.YtndagnkhjlgjgaaGreatDoor.Str
