-- Written by a turned copy of the kit print (wip/patch_print.py of this repo), this session
import Derived.Test.YtbonodglnilkfaaDoorProg
import Derived.Below
import Derived.Deep.Draws
import Derived.Deep.AppendLies
import Derived.Maps.AppendAt
import Derived.OwnWalk
import Derived.Laws.BytesArg
import Derived.Laws.MakeOwn
import Derived.Laws.OwnMore
import Derived.Deep.OwnRows
import Derived.Tactics
import Derived.Lib.ConvBytes
import Derived.Laws.Slices
import Derived.WalkKit
import Derived.KernelRfl
import Derived.RowKit3
import Derived.Deep.LoopGhost
import Derived.Deep.QuietTactic
import Derived.BigQuiet
import Derived.WideLaws
import Derived.Deep.DeepCutAuto
import Derived.Deep.CutBlock
import Derived.Deep.RegionHeld3
import Derived.Laws.Rows
import Derived.Lib.AppendStr
import Derived.ArgAppend
import Derived.Laws.IdiomCopy
import Derived.OrdersHeld
import Derived.Laws.BitsLemmas
import Derived.RowKit
import Derived.Test.YtbonodglnilkfaaDoorWWords
import Derived.Test.YtbonodglnilkfaaDoorWLast
import Derived.Test.YtbonodglnilkfaaDoorWTab
import Derived.Test.YtbonodglnilkfaaDoorAb
import Derived.Test.YtbonodglnilkfaaDoorWApart
import Derived.Test.YtbonodglnilkfaaDoorShelf
import Derived.Test.YtbonodglnilkfaaDoorTxt
import Derived.Test.YtbonodglnilkfaaDoorColl
import Derived.Shelf.SlIter.AllValues
namespace Go.Proofs.YtbonodglnilkfaaDoor.PJt
open Go.RowKit Go.Proofs.YtbonodglnilkfaaDoorW.PrintWords Go.Proofs.YtbonodglnilkfaaDoorW.PrintLast Go.Proofs.YtbonodglnilkfaaDoorW.PrintMore
attribute [local go_sem] max2_int min2_int max_two min_two max_three min_three max_four min_four   -- for this text's walks alone
set_option linter.unusedVariables false
set_option linter.unusedSimpArgs false
def errW : Option Int → Value
 | none => .nilIface
 | some c => .iface 0 (.int .i64 c)
theorem errW_none : errW none = .nilIface := rfl
theorem errW_some (c : Int) : errW (some c) = .iface 0 (.int .i64 c) := rfl
theorem info5 : (Tryd.prog.info? 5).map (fun i => (i.zero, i.size, i.bytes)) = some (some (.int .u8 0), 1, 1) := by kernel_rfl
theorem info41 : (Tryd.prog.info? 41).map (fun i => (i.zero, i.size, i.bytes)) = some (some (.agg #[(.string ⟨#[]⟩), (.string ⟨#[]⟩)]), 2, 32) := by kernel_rfl
structure S41 where
 f0 : ByteArray
 f1 : ByteArray
def z41 : S41 := ⟨(⟨#[]⟩ : ByteArray), (⟨#[]⟩ : ByteArray)⟩
def k41 : Kd S41 := Kd.iso (Kd.pair Kd.string Kd.string) (fun x : S41 => (x.f0, x.f1))
theorem k41_open {w : World} {x : S41} {cs : List Value} (h : k41.K w x cs) : cs = [.string x.f0, .string x.f1] := by
 obtain ⟨_, _, rfl, rfl, rfl⟩ := h
 exact rfl
theorem k41_openM {w : World} {base : Nat} {ok : Nat → Prop} {x : S41} {cs : List Value} (h : k41.M w base ok x cs) : cs = [.string x.f0, .string x.f1] := by
 obtain ⟨_, _, rfl, rfl, rfl⟩ := h
 exact rfl
theorem k41_mkM (w : World) (base : Nat) (ok : Nat → Prop) (x : S41)  : k41.M w base ok x [.string x.f0, .string x.f1] := ⟨[.string x.f0], [.string x.f1], rfl, rfl, rfl⟩
def rd_T41 (xs : List S41) (i : Int) : S41 := xs.getD i.toNat z41
theorem at_T41 {w : World} {A : Option Addr} {n : Nat} {xs : List S41} (h : Kd.C k41 w A n xs) (i : Int) (h0 : 0 ≤ i) (h1 : i < n) : ∃ ad , A = some ad ∧ w.cell? (ad.add (i.toNat * 2)) = some (.string (rd_T41 xs i).f0) ∧ w.cell? ⟨(ad.add (i.toNat * 2)).block, (ad.add (i.toNat * 2)).off + 1, none⟩ = some (.string (rd_T41 xs i).f1) := by
 obtain ⟨ad, c, e, _, hK, bb⟩ := Kd.C_get h z41 i h0 h1
 have hc : ∀ j u, c[j]? = some u → w.cell? (ad.add (i.toNat * 2 + j)) = some u := bb
 obtain rfl := k41_open hK
 exact ⟨ad, e, hc 0 _ rfl, by rw [← add_field _ _ 1 (by omega)]; exact hc 1 _ rfl⟩
end Go.Proofs.YtbonodglnilkfaaDoor.PJt
namespace Go.Proofs.YtbonodglnilkfaaDoor.Own
open Go Go.RowKit Go.Proofs.YtbonodglnilkfaaDoorW.PrintWords Go.Proofs.YtbonodglnilkfaaDoor.PJt
set_option linter.unusedVariables false
structure Rec where
 str : ByteArray → Int → Option (ByteArray × Int × Bool)
 join : List S41 → Option ByteArray
 big : ByteArray → Option Bool
 val : ByteArray → Int → Option (ByteArray × Int × Bool × Bool × Bool)
 dec : Int → Option ByteArray
 sz : ByteArray → Option (Int × Int)
 hstr : ∀ (a0 : ByteArray) (a1 : Int) (r1 : ByteArray) (r2 : Int) (r3 : Bool) (w : World), str a0 a1 = some (r1, r2, r3) →
  Calls Tryd.prog 20 #[.string a0, .int .i64 a1] w fun e w' => e = .returned (.tuple #[.string r1, .int .i64 r2, .bool r3]) ∧ Below w.heap.size w w'
 hmk : ∀ (A0 : Option Addr) (c0 : Nat) (l0 : List S41) (r : ByteArray) (w : World), Kd.C k41 w A0 l0.length l0 → l0.length ≤ c0 → join l0 = some r →
  Calls Tryd.prog 32 #[.slice A0 l0.length c0] w fun e w' => e = .returned (.string r) ∧ Below w.heap.size w w'
 hbig : ∀ (a0 : ByteArray) (r : Bool) (w : World), big a0 = some r →
  Calls Tryd.prog 36 #[.string a0] w fun e w' => e = .returned (.bool r) ∧ Drawn0 w w'
 hval : ∀ (a0 : ByteArray) (a1 : Int) (r1 : ByteArray) (r2 : Int) (r3 r4 r5 : Bool) (w : World), val a0 a1 = some (r1, r2, r3, r4, r5) →
  Calls Tryd.prog 10 #[.string a0, .int .i64 a1] w fun e w' => e = .returned (.agg #[.string r1, .int .i64 r2, .bool r3, .bool r4, .bool r5]) ∧ Below w.heap.size w w'
 hdec : ∀ (a0 : Int) (r : ByteArray) (w : World), dec a0 = some r →
  Calls Tryd.prog 24 #[.int .i64 a0] w fun e w' => e = .returned (.string r) ∧ Below w.heap.size w w'
 hsz : ∀ (a0 : ByteArray) (r1 r2 : Int) (w : World), sz a0 = some (r1, r2) →
  Calls Tryd.prog 7 #[.string a0] w fun e w' => e = .returned (.tuple #[.int .i64 r1, .int .i64 r2]) ∧ Below w.heap.size w w'
variable [Inhabited Rec]
def spec_l1String.f (a0 : ByteArray) (a1 : Int) : Option (ByteArray × Int × Bool) := (default : Rec).str a0 a1
theorem spec_l1String.calls (a0 : ByteArray) (a1 : Int) (r1 : ByteArray) (r2 : Int) (r3 : Bool) (w : World) (h : spec_l1String.f a0 a1 = some (r1, r2, r3)) :
  Calls Tryd.prog 20 #[.string a0, .int .i64 a1] w fun e w' => e = .returned (.tuple #[.string r1, .int .i64 r2, .bool r3]) ∧ Below w.heap.size w w' := (default : Rec).hstr a0 a1 r1 r2 r3 w h
def spec_l1Make.f (l0 : List S41) : Option ByteArray := (default : Rec).join l0
theorem spec_l1Make.calls (A0 : Option Addr) (c0 : Nat) (l0 : List S41) (r : ByteArray) (w : World) (hr0 : Kd.C k41 w A0 l0.length l0) (hc0 : l0.length ≤ c0) (h : spec_l1Make.f l0 = some r) :
  Calls Tryd.prog 32 #[.slice A0 l0.length c0] w fun e w' => e = .returned (.string r) ∧ Below w.heap.size w w' := (default : Rec).hmk A0 c0 l0 r w hr0 hc0 h
def spec_l1TooBig.f (a0 : ByteArray) : Option Bool := (default : Rec).big a0
theorem spec_l1TooBig.calls (a0 : ByteArray) (r : Bool) (w : World) (h : spec_l1TooBig.f a0 = some r) :
  Calls Tryd.prog 36 #[.string a0] w fun e w' => e = .returned (.bool r) ∧ Drawn0 w w' := (default : Rec).hbig a0 r w h
def spec_l1Value.f (a0 : ByteArray) (a1 : Int) : Option (ByteArray × Int × Bool × Bool × Bool) := (default : Rec).val a0 a1
theorem spec_l1Value.calls (a0 : ByteArray) (a1 : Int) (r1 : ByteArray) (r2 : Int) (r3 r4 r5 : Bool) (w : World) (h : spec_l1Value.f a0 a1 = some (r1, r2, r3, r4, r5)) :
  Calls Tryd.prog 10 #[.string a0, .int .i64 a1] w fun e w' => e = .returned (.agg #[.string r1, .int .i64 r2, .bool r3, .bool r4, .bool r5]) ∧ Below w.heap.size w w' := (default : Rec).hval a0 a1 r1 r2 r3 r4 r5 w h
def spec_l1Dec.f (a0 : Int) : Option ByteArray := (default : Rec).dec a0
theorem spec_l1Dec.calls (a0 : Int) (r : ByteArray) (w : World) (h : spec_l1Dec.f a0 = some r) :
  Calls Tryd.prog 24 #[.int .i64 a0] w fun e w' => e = .returned (.string r) ∧ Below w.heap.size w w' := (default : Rec).hdec a0 r w h
def spec_l1Sizes.f (a0 : ByteArray) : Option (Int × Int) := (default : Rec).sz a0
theorem spec_l1Sizes.calls (a0 : ByteArray) (r1 r2 : Int) (w : World) (h : spec_l1Sizes.f a0 = some (r1, r2)) :
  Calls Tryd.prog 7 #[.string a0] w fun e w' => e = .returned (.tuple #[.int .i64 r1, .int .i64 r2]) ∧ Below w.heap.size w w' := (default : Rec).hsz a0 r1 r2 w h
end Go.Proofs.YtbonodglnilkfaaDoor.Own
namespace Go.Proofs.YtbonodglnilkfaaDoor.Read
open Go Go.RowKit Go.Proofs.YtbonodglnilkfaaDoorW.PrintWords Go.Proofs.YtbonodglnilkfaaDoor.Str Go.Proofs.YtbonodglnilkfaaDoor.Tchs Go.Proofs.YtbonodglnilkfaaDoor.Tree
set_option linter.unusedVariables false
set_option linter.unusedSimpArgs false
abbrev L7 : List UInt8 := [57, 50, 50, 51, 51, 55, 50, 48, 51, 54, 56, 53, 52, 55, 55, 53, 56, 48, 55]
abbrev L8 : List UInt8 := [57, 50, 50, 51, 51, 55, 50, 48, 51, 54, 56, 53, 52, 55, 55, 53, 56, 48, 56]
def tooD (lim : List UInt8) (d : ByteArray) : Bool := if d.size = 19 then (!Op.bytesLess d.toList lim && !(d.toList == lim)) else decide ((19 : Int) < (d.size : Int))
def tooB (x : ByteArray) : Bool := if bt x 0 = 45 then tooD L8 (x.extract 1 x.size) else tooD L7 x
set_option maxRecDepth 100000 in
set_option maxHeartbeats 4000000 in
theorem l1TooBig (x : ByteArray) (w : World) (hx : 0 < x.size) :
  Calls Tryd.prog 36 #[.string x] w fun e w' => e = .returned (.bool (tooB x)) ∧ Drawn0 w w' := by
 have i1 : (0 : Int) < (x.size : Int) := by omega
 have hb : bt x 0 = ((x[0]'hx).toNat : Int) := by simp [bt, hx]
 have i2 : (1 : Int) ≤ (x.size : Int) := by omega
 go_enter Tryd.func36, Tryd.ntmps36
 by_cases h : bt x 0 = 45
 ·have HE := Lib.hid (show tooB x = tooD L8 (x.extract 1 x.size) by unfold tooB; rw [if_pos h])
  have d1 : (((x[0]'hx).toNat : Int) == 45) = true := by rw [← hb, h]; rfl
  have hz : (x.extract 1 x.size).size = x.size - 1 := by simp
  have HZ := Lib.hid hz
  clear hz
  by_cases hs : x.size - 1 = 19
  ·have d2 : (((x.size - 1 : Nat) : Int) != 19) = false := by simp [hs]
   have HS := Lib.hid hs
   clear hs
   go_wp2_with fail
   go_ret
   rw [HE.out]
   unfold tooD
   rw [if_pos (by rw [HZ.out]; exact HS.out)]
   exact ⟨rfl, Drawn0.refl _⟩
  ·have d2 : (((x.size - 1 : Nat) : Int) != 19) = true := by simp; omega
   have HS := Lib.hid hs
   clear hs
   go_wp2_with fail
   go_ret
   rw [HE.out]
   unfold tooD
   rw [if_neg (by rw [HZ.out]; exact HS.out), HZ.out]
   exact ⟨rfl, Drawn0.refl _⟩
 ·have HE := Lib.hid (show tooB x = tooD L7 x by unfold tooB; rw [if_neg h])
  have d1 : (((x[0]'hx).toNat : Int) == 45) = false := by rw [← hb]; simpa using h
  by_cases hs : x.size = 19
  ·have d2 : ((x.size : Int) != 19) = false := by simp [hs]
   have HS := Lib.hid hs
   clear hs
   go_wp2_with fail
   go_ret
   rw [HE.out]
   unfold tooD
   rw [if_pos HS.out]
   exact ⟨rfl, Drawn0.refl _⟩
  ·have d2 : ((x.size : Int) != 19) = true := by simp; omega
   have HS := Lib.hid hs
   clear hs
   go_wp2_with fail
   go_ret
   rw [HE.out]
   unfold tooD
   rw [if_neg HS.out]
   exact ⟨rfl, Drawn0.refl _⟩
end Go.Proofs.YtbonodglnilkfaaDoor.Read
namespace Go.Proofs.YtbonodglnilkfaaDoor.Keys
open Go Go.Proofs Go.RowKit Go.Maps Go.Sort Go.Shelf Go.Proofs.YtbonodglnilkfaaDoorW.PrintWords Go.Proofs.YtbonodglnilkfaaDoor.Val Go.Proofs.YtbonodglnilkfaaDoor.Tree
set_option linter.unusedVariables false
set_option linter.unusedSimpArgs false
theorem keys_enc (ds : List (ByteArray × Value)) : strKeys (encM ds) = ds.map fun p => p.1.data.toList := by
 show List.map _ (List.map _ ds) = _
 rw [List.map_map]
 rfl
theorem size_enc (ds : List (ByteArray × Value)) : Maps.size (encM ds) = ds.length := by
 unfold encM Maps.size
 simp
end Go.Proofs.YtbonodglnilkfaaDoor.Keys
namespace Go.Proofs.YtbonodglnilkfaaDoor.Coll
open Go Go.Proofs Go.RowKit Go.Maps Go.Sort Go.Shelf Go.Proofs.YtbonodglnilkfaaDoorW.PrintWords Go.Proofs.YtbonodglnilkfaaDoorW.PrintLast Go.Proofs.YtbonodglnilkfaaDoor.Read Go.Proofs.YtbonodglnilkfaaDoor.Val Go.Proofs.YtbonodglnilkfaaDoor.Tree
set_option linter.unusedVariables false
set_option linter.unusedSimpArgs false
def Ifs (ds : List (ByteArray × Value)) : Prop := ∀ p ∈ ds, ∃ T x, p.2 = .iface T x
theorem at_enc (x : List UInt8) (c : Value) : ∀ ds : List (ByteArray × Value), (∀ zd : DataW Value, (encM ds).atKey (.string x) zd = .held c) → ∃ p ∈ ds, p.1.data.toList = x ∧ p.2 = c := by
 intro ds h
 have h1 := h (.lit (.bool true))
 unfold encM DataW.atKey at h1
 simp only [] at h1
 cases hf : (ds.map fun x => ((.string x.1.data.toList, .held x.2) : Lit × DataW Value)).find? (fun p => p.1.sameKey (.string x)) with
 | none => rw [hf] at h1; cases h1
 | some p =>
  rw [hf] at h1
  have hm := List.mem_of_find?_eq_some hf
  have hp := List.find?_some hf
  obtain ⟨q, hq, rfl⟩ := List.mem_map.1 hm
  exact ⟨q, hq, by simpa [Lit.sameKey] using hp, by injection h1⟩
def PairOf (ds : List (ByteArray × Value)) (p : List UInt8 × (Nat × Value)) : Prop := ∀ zd, (encM ds).atKey (.string p.1) zd = .held (encV p.2)
set_option maxRecDepth 100000 in
set_option maxHeartbeats 1000000 in
theorem values1_in (n : Nat) (hn : 1 ≤ n) (l Bm b nn : Nat) (ds : List (ByteArray × Value)) (hi : Ifs ds) (J : List (Nat × Value) → World → Prop)
  (hY : ∀ pre x W, J pre W → pre.length < Maps.size (encM ds) → YieldAt Fence.wide (n - 1) Tryd.prog l #[encV x] W fun e W' => e = .returned (.bool true) ∧ J (pre ++ [x]) W' ∧ KeepsWalks W W')
  (W : World) (hJ : AbidesFrom W.heap.size J) (hm : W.cell? ⟨Bm, 0, none⟩ = some (.map (some b))) (hown : W.ownsMap Tryd.prog 9 Rd b nn (encM ds)) (h0 : J [] W) :
  CallsIn Fence.wide n Tryd.prog 30 #[.func (.yield l) #[] #[], .pointer (some ⟨Bm, 0, none⟩)] W fun e W' => (∃ v, e = .returned v) ∧
   ∃ xs, (∃ ps : List (List UInt8 × (Nat × Value)), (ps.map (·.1)).Perm (strKeys (encM ds)) ∧ (∀ p ∈ ps, PairOf ds p) ∧ xs = ps.map (·.2)) ∧ J xs W' := by
 have hro : Fence.wide.round = none := rfl
 refine callsIn_of_wp Tryd.func30 rfl trivial ?_ hro
 simp only [Tryd.ntmps30, List.size_toArray, List.length_cons, List.length_nil, Nat.reduceAdd, Nat.reduceSub, Array.replicate_succ, Array.replicate_zero, List.push_toArray, List.append_toArray, List.nil_append, List.cons_append]
 gi_wp2_with (first
  | (gi_at_range; refine wpListIn_range_own _ rfl _ 50 rfl 9 30 (string_keyed Tryd.underlying9) Tryd.underlying50 Rd b nn _ rfl hown ?_; intro w0 hrg0 hg0 hs0)
  | gi_in)
 go_frame
 gi_loopw [4] (fun _ wr => ∃ (left : Lit → Bool) (cnt : Nat) (ps : List (List UInt8 × (Nat × Value))), wr.ranges Tryd.prog 9 Rd b W.heap.size nn (encM ds) left cnt ∧ ps.length + cnt ≤ Maps.size (encM ds) ∧ Collected (encM ds) left (ps.map (·.1)) ∧ (∀ p ∈ ps, PairOf ds p) ∧ J (ps.map (·.2)) wr)
  (fun _ wr => wr.rangeLeft b W.heap.size)
 case atStart =>
  exact ⟨_, _, [], hrg0, by simp, Collected.start (encM ds), by simp, hJ [] W w0 none h0 hg0 (fun r e => by cases e)⟩
 case round =>
  obtain ⟨left, cnt, ps, hrg, hcs, hC, hV, hJs⟩ := hrel
  gi_wp2_with (first
   | (gi_at_next; refine wpListIn_next_ranges _ rfl _ rfl 9 (string_keyed Tryd.underlying9) Rd encStr (fun v => v) (fun key kl hk => by obtain ⟨x, hx, _⟩ := Maps.keyOf_str Tryd.underlying9 hk; exact ⟨x, hx⟩) (fun v y hv => ⟨v, rfl⟩) b W.heap.size nn _ _ _ rfl hrg ?_ ?_)
   | gi_in)
  ·intro hc0 hl0
   gi_wp2
   go_end0
   exact ⟨⟨_, rfl⟩, _, ⟨ps, hC.perm hown (string_keyed Tryd.underlying9) Tryd.underlying9 hl0, hV, rfl⟩, hJs⟩
  ·intro x c kl yd yp w2 cnt2 hkey hlk hv hat hrg2 hlt hg2 hs2 hen
   obtain ⟨x', ex, rfl, _⟩ := Maps.keyOf_str Tryd.underlying9 hkey
   obtain rfl : x = x' := encStr_inj ex
   obtain rfl : yd = .held c := (Prod.mk.inj (Option.some.inj hv)).1.symm
   obtain ⟨p, hp, hp1, hp2⟩ := at_enc x c ds hat
   obtain ⟨T', z, hz⟩ := hi p hp
   obtain rfl : c = encV (T', z) := by rw [← hp2, hz]; rfl
   have hJ2 : J (ps.map (·.2)) w2 := hJ _ wr w2 (some W.heap.size) hJs hg2 (fun r e => by cases e; exact ⟨Nat.le_refl _, hrg.iter_walk⟩)
   obtain ⟨fn, tmps, assign, body, hy, hR⟩ := hY (ps.map (·.2)) (T', z) w2 hJ2 (by simp; omega)
   clear hs2
   gi_wp2
   refine hR.mono ?_
   have hC2 : Collected (encM ds) (fun z => left z && !z.sameKey (.string x)) ((ps ++ [(x, (T', z))]).map (·.1)) := by simpa using hC.step hlk hat
   have hV2 : ∀ p ∈ ps ++ [(x, (T', z))], PairOf ds p := fun p hp => (List.mem_append.1 hp).elim (hV p) (fun e => by simp at e; subst e; exact hat)
   rintro e W3 ⟨rfl, hJ3, hk3⟩
   gi_wp2
   have hrg3 := hrg2.of_walks hk3
   go_roundw
   case rel => exact ⟨_, cnt2, ps ++ [(x, (T', z))], hrg3, by simp; omega, hC2, hV2, by simpa using hJ3⟩
   case measure => rw [hrg3.left_eq, hrg.left_eq]; exact hlt
theorem values_in (n : Nat) (mb : Option Nat) (w : World) :
  CallsIn Fence.wide n Tryd.prog 16 #[.map mb] w fun e w' => e = .returned (.func (.func 30) #[] #[.pointer (some ⟨w.heap.size, 0, none⟩)]) ∧ w' = w.alloc (.cells #[.map mb] 50) := by
 refine callsIn_of_wp Tryd.func16 rfl trivial ?_ rfl
 simp only [Tryd.ntmps16, List.size_toArray, List.length_cons, List.length_nil, Nat.reduceAdd, Nat.reduceSub, Array.replicate_succ, Array.replicate_zero, List.push_toArray, List.append_toArray, List.nil_append, List.cons_append]
 gi_wp2
 go_ret
 exact ⟨rfl, rfl⟩
theorem vals_perm (ds : List (ByteArray × Value)) (hs : ds.Pairwise (fun a b => keyB a b = true)) (ps : List (List UInt8 × (Nat × Value))) (hp : (ps.map (·.1)).Perm (strKeys (encM ds))) (hv : ∀ p ∈ ps, PairOf ds p) : ((ps.map (·.2)).map encV).Perm (ds.map (·.2)) := by
 have key : ∀ (x : List UInt8), ∀ d ∈ ds, d.1.data.toList = x → ∀ zd : DataW Value, (encM ds).atKey (.string x) zd = .held d.2 := by
  clear hp hv
  intro x d hd hx zd
  unfold encM DataW.atKey
  simp only []
  have hf : (ds.map fun x => ((.string x.1.data.toList, .held x.2) : Lit × DataW Value)).find? (fun p => p.1.sameKey (.string x)) = some (.string d.1.data.toList, .held d.2) := by
   induction ds with
   | nil => simp at hd
   | cons a r ih =>
    rw [List.pairwise_cons] at hs
    rw [List.map_cons, List.find?_cons]
    rcases List.mem_cons.1 hd with rfl | hd
    ·have : (Lit.string d.1.data.toList).sameKey (.string x) = true := by simp [Lit.sameKey, hx]
     simp only [this]
    ·have hne : a.1.data.toList ≠ x := by
      intro e
      have h1 := hs.1 d hd
      unfold keyB at h1
      rw [e, hx, Go.WideAt.bytes_irrefl] at h1
      cases h1
     have : (Lit.string a.1.data.toList).sameKey (.string x) = false := by simpa [Lit.sameKey] using hne
     simp only [this]
     exact ih hs.2 hd
  rw [hf]
 let f : List UInt8 → Value := fun x => match (encM ds).atKey (.string x) (.lit (.bool true)) with | .held c => c | _ => .nilIface
 have h1 : (ps.map (·.2)).map encV = (ps.map (·.1)).map f := by
  rw [List.map_map, List.map_map]
  refine List.map_congr_left fun p hp => ?_
  have := hv p hp (.lit (.bool true))
  simp only [Function.comp, f, this]
 have h2 : ds.map (·.2) = (strKeys (encM ds)).map f := by
  rw [Go.Proofs.YtbonodglnilkfaaDoor.Keys.keys_enc, List.map_map]
  refine List.map_congr_left fun d hd => ?_
  have := key d.1.data.toList d hd rfl (.lit (.bool true))
  simp only [Function.comp, f, this]
 rw [h1, h2]
 exact hp.map f
end Go.Proofs.YtbonodglnilkfaaDoor.Coll
