/- The reference's l1TooBig: the contract by hand. -/
import Derived.Test.YtbonodglnilkfaaGreatDoorTxt
import Derived.Test.YtbonodglnilkfaaGreatDoorOwn
import Derived.Shelf.SlIter.Nil
import Derived.Shelf.SortM.Plain
import Derived.Ground.GgzProg
import Derived.Test.YtbonodglnilkfaaGreatDoorProg
import Derived.Test.YtbonodglnilkfaaGreatDoorShelf
import Derived.Test.YtbonodglnilkfaaGreatDoorColl
import Derived.Shelf.SlIter.AllValues
namespace Go.Proofs.YtbonodglnilkfaaGreatDoor.Read
open Go Go.RowKit Go.Proofs.YtbonodglnilkfaaGreatDoorW.PrintWords Go.Proofs.YtbonodglnilkfaaGreatDoor.Str Go.Proofs.YtbonodglnilkfaaGreatDoor.Tchs Go.Proofs.YtbonodglnilkfaaGreatDoor.Tree
set_option linter.unusedVariables false
set_option linter.unusedSimpArgs false
abbrev L7 : List UInt8 := [57, 50, 50, 51, 51, 55, 50, 48, 51, 54, 56, 53, 52, 55, 55, 53, 56, 48, 55]
abbrev L8 : List UInt8 := [57, 50, 50, 51, 51, 55, 50, 48, 51, 54, 56, 53, 52, 55, 55, 53, 56, 48, 56]
def tooD (lim : List UInt8) (d : ByteArray) : Bool := if d.size = 19 then (!Op.bytesLess d.toList lim && !(d.toList == lim)) else decide ((19 : Int) < (d.size : Int))
def tooB (x : ByteArray) : Bool := if bt x 0 = 45 then tooD L8 (x.extract 1 x.size) else tooD L7 x
set_option maxRecDepth 100000 in
set_option maxHeartbeats 4000000 in
theorem l1TooBig (x : ByteArray) (w : World) (hx : 0 < x.size) :
  Calls Tryz.prog 65 #[.string x] w fun e w' => e = .returned (.bool (tooB x)) ∧ Drawn0 w w' := by
 have i1 : (0 : Int) < (x.size : Int) := by omega
 have hb : bt x 0 = ((x[0]'hx).toNat : Int) := by simp [bt, hx]
 have i2 : (1 : Int) ≤ (x.size : Int) := by omega
 go_enter Tryz.func65, Tryz.ntmps65
 by_cases h : bt x 0 = 45
 ·have HE := Lib.hid (show tooB x = tooD L8 (x.extract 1 x.size) by unfold tooB; rw [if_pos h])
  have d1 : (((x[0]'hx).toNat : Int) == 45) = true := by rw [← hb, h]; rfl
  have hz : (x.extract 1 x.size).size = x.size - 1 := by simp
  have HZ := Lib.hid hz
  clear hz
  by_cases hs : x.size - 1 = 19
  ·have d2 : (((x.size - 1 : Nat) : Int) != 19) = false := by simp [hs]
   have HS := Lib.hid hs
   clear hs
   go_wp2_with fail
   go_ret
   rw [HE.out]
   unfold tooD
   rw [if_pos (by rw [HZ.out]; exact HS.out)]
   exact ⟨rfl, Drawn0.refl _⟩
  ·have d2 : (((x.size - 1 : Nat) : Int) != 19) = true := by simp; omega
   have HS := Lib.hid hs
   clear hs
   go_wp2_with fail
   go_ret
   rw [HE.out]
   unfold tooD
   rw [if_neg (by rw [HZ.out]; exact HS.out), HZ.out]
   exact ⟨rfl, Drawn0.refl _⟩
 ·have HE := Lib.hid (show tooB x = tooD L7 x by unfold tooB; rw [if_neg h])
  have d1 : (((x[0]'hx).toNat : Int) == 45) = false := by rw [← hb]; simpa using h
  by_cases hs : x.size = 19
  ·have d2 : ((x.size : Int) != 19) = false := by simp [hs]
   have HS := Lib.hid hs
   clear hs
   go_wp2_with fail
   go_ret
   rw [HE.out]
   unfold tooD
   rw [if_pos HS.out]
   exact ⟨rfl, Drawn0.refl _⟩
  ·have d2 : ((x.size : Int) != 19) = true := by simp; omega
   have HS := Lib.hid hs
   clear hs
   go_wp2_with fail
   go_ret
   rw [HE.out]
   unfold tooD
   rw [if_neg HS.out]
   exact ⟨rfl, Drawn0.refl _⟩
end Go.Proofs.YtbonodglnilkfaaGreatDoor.Read
namespace Go.Proofs
open Go.Shelf
def Tryz.laysKeys_ren : Go.Shelf.Ren := ⟨fun | 7 => 95 | 10 => 104 | n => n, fun | 23 => 101 | 26 => 9 | 3 => 42 | 28 => 123 | 0 => 0 | 27 => 122 | 33 => 24 | 4 => 4 | n => n, fun | n => n⟩
theorem Tryz.laysKeys : Go.Proofs.SlLaysZ.n7 Tryz.prog Tryz.laysKeys_ren := {
 mixed := by kernel_rfl
 f7 := ⟨Tryz.f95.name, by decide, Tryz.func95.trans (congrArg some (by kernel_rfl))⟩
 f10 := ⟨Tryz.f104.name, by decide, Tryz.func104.trans (congrArg some (by kernel_rfl))⟩
 t0 := Tryz.underlying0
 a0 := Tryz.isAgg0
 z0 := Tryz.sizeOf0
 v0 := Tryz.zeroValue0
 t4 := Tryz.underlying4
 a4 := Tryz.isAgg4
 z4 := Tryz.sizeOf4
 v4 := Tryz.zeroValue4
 t23 := Tryz.underlying101
 a23 := Tryz.isAgg101
 z23 := Tryz.sizeOf101
 v23 := Tryz.zeroValue101
 t26 := Tryz.underlying9
 a26 := Tryz.isAgg9
 z26 := Tryz.sizeOf9
 v26 := Tryz.zeroValue9
 t27 := Tryz.underlying122
 a27 := Tryz.isAgg122
 z27 := Tryz.sizeOf122
 v27 := Tryz.zeroValue122
 t28 := Tryz.underlying123
 a28 := Tryz.isAgg123
 z28 := Tryz.sizeOf123
 v28 := Tryz.zeroValue123
 t33 := Tryz.underlying24
 a33 := Tryz.isAgg24
 z33 := Tryz.sizeOf24
 v33 := Tryz.zeroValue24 }
def Tryz.laysSorted_ren : Go.Shelf.Ren := ⟨fun | 6 => 94 | 8 => 102 | 9 => 103 | 11 => 112 | 13 => 114 | 12 => 113 | 23 => 135 | 24 => 122 | 14 => 126 | 15 => 127 | 16 => 128 | 17 => 129 | 18 => 130 | 19 => 131 | 20 => 132 | 21 => 133 | 22 => 134 | 25 => 141 | 26 => 142 | 27 => 143 | 28 => 144 | 29 => 145 | 30 => 146 | 31 => 148 | n => n, fun | 26 => 9 | 28 => 123 | 24 => 61 | 0 => 0 | 3 => 3 | 37 => 80 | 48 => 130 | 50 => 125 | 4 => 4 | 40 => 160 | 39 => 159 | 45 => 164 | 5 => 5 | 9 => 9 | 51 => 170 | 55 => 174 | 57 => 182 | 58 => 70 | 33 => 24 | n => n, fun | n => n⟩
theorem Tryz.laysSorted : Go.Proofs.SlLaysZ.n6 Tryz.prog Tryz.laysSorted_ren := {
 mixed := by kernel_rfl
 f6 := ⟨Tryz.f94.name, by decide, Tryz.func94.trans (congrArg some (by kernel_rfl))⟩
 f8 := ⟨Tryz.f102.name, by decide, Tryz.func102.trans (congrArg some (by kernel_rfl))⟩
 f11 := ⟨Tryz.f112.name, by decide, Tryz.func112.trans (congrArg some (by kernel_rfl))⟩
 t0 := Tryz.underlying0
 a0 := Tryz.isAgg0
 z0 := Tryz.sizeOf0
 v0 := Tryz.zeroValue0
 t24 := Tryz.underlying61
 a24 := Tryz.isAgg61
 z24 := Tryz.sizeOf61
 v24 := Tryz.zeroValue61
 t26 := Tryz.underlying9
 a26 := Tryz.isAgg9
 z26 := Tryz.sizeOf9
 v26 := Tryz.zeroValue9
 t28 := Tryz.underlying123
 a28 := Tryz.isAgg123
 z28 := Tryz.sizeOf123
 v28 := Tryz.zeroValue123
 i26 := by kernel_rfl }
end Go.Proofs
namespace Go.Proofs.YtbonodglnilkfaaGreatDoor.Keys
open Go Go.Proofs Go.RowKit Go.Maps Go.Sort Go.Shelf Go.Proofs.YtbonodglnilkfaaGreatDoorW.PrintWords Go.Proofs.YtbonodglnilkfaaGreatDoor.Val Go.Proofs.YtbonodglnilkfaaGreatDoor.Tree
set_option linter.unusedVariables false
set_option linter.unusedSimpArgs false
theorem before_lt : ∀ (a b : List UInt8), bytesBefore a b = true → a < b
  | [], [], h => by cases h
  | [], _ :: _, _ => List.nil_lt_cons _ _
  | _ :: _, [], h => by cases h
  | a :: r, b :: s, h => by
    unfold bytesBefore at h
    rw [List.cons_lt_cons_iff]
    simp only [Bool.or_eq_true, decide_eq_true_eq, Bool.and_eq_true, beq_iff_eq] at h
    rcases h with h | ⟨h1, h2⟩
    · exact .inl h
    · exact .inr ⟨h1, before_lt r s h2⟩
theorem sort_of (ds : List (List UInt8)) (hs : ds.Pairwise (fun a b => bytesBefore a b = true)) (ss : List (List UInt8)) (hp : ss.Perm ds) : ss.mergeSort (fun x y => decide (x ≤ y)) = ds := by
  refine List.Perm.eq_of_pairwise (le := fun a b => decide (a ≤ b) = true) (fun a b _ _ h1 h2 => ?_) (List.pairwise_mergeSort ?_ ?_ ss) (hs.imp fun {a b} h => ?_) ((List.mergeSort_perm ss _).trans hp)
  · simp only [decide_eq_true_eq] at h1 h2
    exact List.le_antisymm h1 h2
  · intro a b c h1 h2
    simp only [decide_eq_true_eq] at h1 h2 ⊢
    exact List.le_trans h1 h2
  · intro a b
    simp only [Bool.or_eq_true, decide_eq_true_eq]
    exact List.le_total a b
  · simp only [decide_eq_true_eq]
    exact List.le_of_lt (before_lt a b h)
theorem keys_enc (ds : List (ByteArray × Value)) : strKeys (encM ds) = ds.map fun p => p.1.data.toList := by
  show List.map _ (List.map _ ds) = _
  rw [List.map_map]
  rfl
theorem size_enc (ds : List (ByteArray × Value)) : Maps.size (encM ds) = ds.length := by
  unfold encM Maps.size
  simp
theorem sorts (m : Nat) : AnyZ.SortsIn Tryz.prog Tryz.laysSorted_ren Fence.wide m :=
  ⟨fun blk off cap ss W hH hblk hsz => callsIn_wide.2 (Tryz.slices_Sort_string blk off cap ss W hH hblk hsz),
   fun p cap W => callsIn_wide.2 (Tryz.slices_Sort_string_none p cap W)⟩
theorem maps_Keys (mb : Option Nat) (W : World) : CallsIn Fence.wide 5 Tryz.prog 95 #[.map mb] W fun e w' => e = .returned (.func (.func 104) #[] #[.pointer (some ⟨W.heap.size, 0, none⟩)]) ∧ w' = W.alloc (.cells #[.map mb] 101) :=
  AnyZ.keys_in Tryz.laysKeys Fence.wide 5 trivial rfl mb W
set_option maxHeartbeats 1000000 in
theorem sorted_keys {H : Type} (b nn : Nat) (D0 : DataW H) (R : Value → Option (DataW H × List MemPlace)) (w : World) (hown : w.ownsMap Tryz.prog 9 R b nn D0) (hmax : Maps.size D0 ≤ maxLen) (hbytes : Maps.size D0 * 16 ≤ 140737488355328) :
    CallsIn Fence.wide 5 Tryz.prog 94 #[.func (.func 104) #[] #[.pointer (some ⟨w.heap.size, 0, none⟩)]] (w.alloc (.cells #[.map (some b)] 101)) fun e w' => ∃ (v : Value) (ss : List (List UInt8)), e = .returned v ∧ ss.Perm (strKeys D0) ∧
      w'.ownsRow (w.alloc (.cells #[.map (some b)] 101)).heap.size 9 1 v ss.length ((ss.mergeSort (fun x y => decide (x ≤ y))).map encStr) ∧ (v = .slice none 0 0 ↔ ss = []) ∧ Below (w.alloc (.cells #[.map (some b)] 101)).heap.size (w.alloc (.cells #[.map (some b)] 101)) w' := by
  have hbl := hown.lt
  have hseq : SeqGives Fence.wide 2 Tryz.prog 104 #[.pointer (some ⟨w.heap.size, 0, none⟩)] encStr (fun ss => ss.Perm (strKeys D0)) (Maps.size D0) (w.alloc (.cells #[.map (some b)] 101)) :=
    AnyZ.keys_gives (ρ := Tryz.laysKeys_ren) { Tryz.laysKeys with } Fence.wide _ trivial rfl (by omega) w.heap.size b nn D0 _ (by simp) (by simp) (by
      obtain ⟨es, clock, hb, Ft, hs, hD⟩ := hown
      exact ⟨es, clock, (Below.heap_alloc _ _ b hbl).trans hb, Ft, hs, hD⟩)
  exact AnyZ.sorted_in Tryz.laysSorted Fence.wide 5 trivial trivial trivial trivial rfl (by omega) (sorts _) (enters_of Tryz.func103 (by kernel_rfl) rfl) 104 #[.pointer (some ⟨w.heap.size, 0, none⟩)] trivial (enters_of Tryz.func104 (by kernel_rfl) rfl) _ _ hmax hbytes _ hseq
theorem keys (w : World) (g n : Nat) (ds : List (ByteArray × Value)) (hown : w.ownsMap Tryz.prog 9 Rd g n (encM ds)) (hs : ds.Pairwise (fun a b => keyB a b = true)) (hl : ds.length ≤ 1000000) :
    Calls Tryz.prog 74 #[.map (some g)] w fun e w' => ∃ v, e = .returned v ∧ w'.ownsRow w.heap.size 9 1 v ds.length (ds.map fun p => .string p.1) ∧ Below w.heap.size w w' := by
  have hmax : Maps.size (encM ds) ≤ maxLen := by rw [size_enc]; simp only [maxLen]; omega
  have hbytes : Maps.size (encM ds) * 16 ≤ 140737488355328 := by rw [size_enc]; omega
  have c1 := callsIn_wide.1 (maps_Keys (some g) w)
  have c2 := callsIn_wide.1 (sorted_keys g n (encM ds) Rd w hown hmax hbytes)
  go_enter Tryz.func74, Tryz.ntmps74
  go_wp2_with fail
  refine c1.mono ?_
  rintro e w1 ⟨rfl, rfl⟩
  go_wp2_with fail
  refine c2.mono ?_
  rintro e w2 ⟨v, ss, rfl, hp, hrow, hnil, hb⟩
  rw [keys_enc] at hp
  have hlen : ss.length = ds.length := by rw [hp.length_eq, List.length_map]
  have hso := sort_of (ds.map fun p => p.1.data.toList) (by rw [List.pairwise_map]; exact hs) ss hp
  rw [hso, hlen] at hrow
  have e1 : ((ds.map fun p => p.1.data.toList).map encStr) = ds.map fun p => Value.string p.1 := by
    rw [List.map_map]
    refine List.map_congr_left fun p _ => ?_
    simp [encStr]
  rw [e1] at hrow
  go_wp2_with fail
  go_ret
  refine ⟨v, rfl, ownsRow_base_a hrow (by simp), ?_⟩
  exact (below_alloc (Below.refl _ w) _).trans (hb.mono (by simp))
end Go.Proofs.YtbonodglnilkfaaGreatDoor.Keys
namespace Go.Proofs.YtbonodglnilkfaaGreatDoor.Coll
open Go Go.Proofs Go.RowKit Go.Maps Go.Sort Go.Shelf Go.Proofs.YtbonodglnilkfaaGreatDoorW.PrintWords Go.Proofs.YtbonodglnilkfaaGreatDoorW.PrintLast Go.Proofs.YtbonodglnilkfaaGreatDoor.Read Go.Proofs.YtbonodglnilkfaaGreatDoor.Val Go.Proofs.YtbonodglnilkfaaGreatDoor.Tree
set_option linter.unusedVariables false
set_option linter.unusedSimpArgs false
def Ifs (ds : List (ByteArray × Value)) : Prop := ∀ p ∈ ds, ∃ T x, p.2 = .iface T x
theorem at_enc (x : List UInt8) (c : Value) : ∀ ds : List (ByteArray × Value), (∀ zd : DataW Value, (encM ds).atKey (.string x) zd = .held c) → ∃ p ∈ ds, p.1.data.toList = x ∧ p.2 = c := by
 intro ds h
 have h1 := h (.lit (.bool true))
 unfold encM DataW.atKey at h1
 simp only [] at h1
 cases hf : (ds.map fun x => ((.string x.1.data.toList, .held x.2) : Lit × DataW Value)).find? (fun p => p.1.sameKey (.string x)) with
 | none => rw [hf] at h1; cases h1
 | some p =>
  rw [hf] at h1
  have hm := List.mem_of_find?_eq_some hf
  have hp := List.find?_some hf
  obtain ⟨q, hq, rfl⟩ := List.mem_map.1 hm
  exact ⟨q, hq, by simpa [Lit.sameKey] using hp, by injection h1⟩
def PairOf (ds : List (ByteArray × Value)) (p : List UInt8 × (Nat × Value)) : Prop := ∀ zd, (encM ds).atKey (.string p.1) zd = .held (encV p.2)
set_option maxRecDepth 100000 in
set_option maxHeartbeats 1000000 in
theorem values1_in (n : Nat) (hn : 1 ≤ n) (l Bm b nn : Nat) (ds : List (ByteArray × Value)) (hi : Ifs ds) (J : List (Nat × Value) → World → Prop)
  (hY : ∀ pre x W, J pre W → pre.length < Maps.size (encM ds) → YieldAt Fence.wide (n - 1) Tryz.prog l #[encV x] W fun e W' => e = .returned (.bool true) ∧ J (pre ++ [x]) W' ∧ KeepsWalks W W')
  (W : World) (hJ : AbidesFrom W.heap.size J) (hm : W.cell? ⟨Bm, 0, none⟩ = some (.map (some b))) (hown : W.ownsMap Tryz.prog 9 Rd b nn (encM ds)) (h0 : J [] W) :
  CallsIn Fence.wide n Tryz.prog 91 #[.func (.yield l) #[] #[], .pointer (some ⟨Bm, 0, none⟩)] W fun e W' => (∃ v, e = .returned v) ∧
   ∃ xs, (∃ ps : List (List UInt8 × (Nat × Value)), (ps.map (·.1)).Perm (strKeys (encM ds)) ∧ (∀ p ∈ ps, PairOf ds p) ∧ xs = ps.map (·.2)) ∧ J xs W' := by
 have hro : Fence.wide.round = none := rfl
 refine callsIn_of_wp Tryz.func91 rfl trivial ?_ hro
 simp only [Tryz.ntmps91, List.size_toArray, List.length_cons, List.length_nil, Nat.reduceAdd, Nat.reduceSub, Array.replicate_succ, Array.replicate_zero, List.push_toArray, List.append_toArray, List.nil_append, List.cons_append]
 gi_wp2_with (first
  | (gi_at_range; refine wpListIn_range_own _ rfl _ 101 rfl 9 42 (string_keyed Tryz.underlying9) Tryz.underlying101 Rd b nn _ rfl hown ?_; intro w0 hrg0 hg0 hs0)
  | gi_in)
 go_frame
 gi_loopw [4] (fun _ wr => ∃ (left : Lit → Bool) (cnt : Nat) (ps : List (List UInt8 × (Nat × Value))), wr.ranges Tryz.prog 9 Rd b W.heap.size nn (encM ds) left cnt ∧ ps.length + cnt ≤ Maps.size (encM ds) ∧ Collected (encM ds) left (ps.map (·.1)) ∧ (∀ p ∈ ps, PairOf ds p) ∧ J (ps.map (·.2)) wr)
  (fun _ wr => wr.rangeLeft b W.heap.size)
 case atStart =>
  exact ⟨_, _, [], hrg0, by simp, Collected.start (encM ds), by simp, hJ [] W w0 none h0 hg0 (fun r e => by cases e)⟩
 case round =>
  obtain ⟨left, cnt, ps, hrg, hcs, hC, hV, hJs⟩ := hrel
  gi_wp2_with (first
   | (gi_at_next; refine wpListIn_next_ranges _ rfl _ rfl 9 (string_keyed Tryz.underlying9) Rd encStr (fun v => v) (fun key kl hk => by obtain ⟨x, hx, _⟩ := Maps.keyOf_str Tryz.underlying9 hk; exact ⟨x, hx⟩) (fun v y hv => ⟨v, rfl⟩) b W.heap.size nn _ _ _ rfl hrg ?_ ?_)
   | gi_in)
  ·intro hc0 hl0
   gi_wp2
   go_end0
   exact ⟨⟨_, rfl⟩, _, ⟨ps, hC.perm hown (string_keyed Tryz.underlying9) Tryz.underlying9 hl0, hV, rfl⟩, hJs⟩
  ·intro x c kl yd yp w2 cnt2 hkey hlk hv hat hrg2 hlt hg2 hs2 hen
   obtain ⟨x', ex, rfl, _⟩ := Maps.keyOf_str Tryz.underlying9 hkey
   obtain rfl : x = x' := encStr_inj ex
   obtain rfl : yd = .held c := (Prod.mk.inj (Option.some.inj hv)).1.symm
   obtain ⟨p, hp, hp1, hp2⟩ := at_enc x c ds hat
   obtain ⟨T', z, hz⟩ := hi p hp
   obtain rfl : c = encV (T', z) := by rw [← hp2, hz]; rfl
   have hJ2 : J (ps.map (·.2)) w2 := hJ _ wr w2 (some W.heap.size) hJs hg2 (fun r e => by cases e; exact ⟨Nat.le_refl _, hrg.iter_walk⟩)
   obtain ⟨fn, tmps, assign, body, hy, hR⟩ := hY (ps.map (·.2)) (T', z) w2 hJ2 (by simp; omega)
   clear hs2
   gi_wp2
   refine hR.mono ?_
   have hC2 : Collected (encM ds) (fun z => left z && !z.sameKey (.string x)) ((ps ++ [(x, (T', z))]).map (·.1)) := by simpa using hC.step hlk hat
   have hV2 : ∀ p ∈ ps ++ [(x, (T', z))], PairOf ds p := fun p hp => (List.mem_append.1 hp).elim (hV p) (fun e => by simp at e; subst e; exact hat)
   rintro e W3 ⟨rfl, hJ3, hk3⟩
   gi_wp2
   have hrg3 := hrg2.of_walks hk3
   go_roundw
   case rel => exact ⟨_, cnt2, ps ++ [(x, (T', z))], hrg3, by simp; omega, hC2, hV2, by simpa using hJ3⟩
   case measure => rw [hrg3.left_eq, hrg.left_eq]; exact hlt
theorem values_in (n : Nat) (mb : Option Nat) (w : World) :
  CallsIn Fence.wide n Tryz.prog 71 #[.map mb] w fun e w' => e = .returned (.func (.func 91) #[] #[.pointer (some ⟨w.heap.size, 0, none⟩)]) ∧ w' = w.alloc (.cells #[.map mb] 101) := by
 refine callsIn_of_wp Tryz.func71 rfl trivial ?_ rfl
 simp only [Tryz.ntmps71, List.size_toArray, List.length_cons, List.length_nil, Nat.reduceAdd, Nat.reduceSub, Array.replicate_succ, Array.replicate_zero, List.push_toArray, List.append_toArray, List.nil_append, List.cons_append]
 gi_wp2
 go_ret
 exact ⟨rfl, rfl⟩
theorem vals_perm (ds : List (ByteArray × Value)) (hs : ds.Pairwise (fun a b => keyB a b = true)) (ps : List (List UInt8 × (Nat × Value))) (hp : (ps.map (·.1)).Perm (strKeys (encM ds))) (hv : ∀ p ∈ ps, PairOf ds p) : ((ps.map (·.2)).map encV).Perm (ds.map (·.2)) := by
 have key : ∀ (x : List UInt8), ∀ d ∈ ds, d.1.data.toList = x → ∀ zd : DataW Value, (encM ds).atKey (.string x) zd = .held d.2 := by
  clear hp hv
  intro x d hd hx zd
  unfold encM DataW.atKey
  simp only []
  have hf : (ds.map fun x => ((.string x.1.data.toList, .held x.2) : Lit × DataW Value)).find? (fun p => p.1.sameKey (.string x)) = some (.string d.1.data.toList, .held d.2) := by
   induction ds with
   | nil => simp at hd
   | cons a r ih =>
    rw [List.pairwise_cons] at hs
    rw [List.map_cons, List.find?_cons]
    rcases List.mem_cons.1 hd with rfl | hd
    ·have : (Lit.string d.1.data.toList).sameKey (.string x) = true := by simp [Lit.sameKey, hx]
     simp only [this]
    ·have hne : a.1.data.toList ≠ x := by
      intro e
      have h1 := hs.1 d hd
      unfold keyB at h1
      rw [e, hx, Go.WideAt.bytes_irrefl] at h1
      cases h1
     have : (Lit.string a.1.data.toList).sameKey (.string x) = false := by simpa [Lit.sameKey] using hne
     simp only [this]
     exact ih hs.2 hd
  rw [hf]
 let f : List UInt8 → Value := fun x => match (encM ds).atKey (.string x) (.lit (.bool true)) with | .held c => c | _ => .nilIface
 have h1 : (ps.map (·.2)).map encV = (ps.map (·.1)).map f := by
  rw [List.map_map, List.map_map]
  refine List.map_congr_left fun p hp => ?_
  have := hv p hp (.lit (.bool true))
  simp only [Function.comp, f, this]
 have h2 : ds.map (·.2) = (strKeys (encM ds)).map f := by
  rw [Go.Proofs.YtbonodglnilkfaaGreatDoor.Keys.keys_enc, List.map_map]
  refine List.map_congr_left fun d hd => ?_
  have := key d.1.data.toList d hd rfl (.lit (.bool true))
  simp only [Function.comp, f, this]
 rw [h1, h2]
 exact hp.map f
end Go.Proofs.YtbonodglnilkfaaGreatDoor.Coll
