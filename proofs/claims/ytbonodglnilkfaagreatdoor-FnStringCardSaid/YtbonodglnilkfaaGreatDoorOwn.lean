-- Written by a turned copy of the kit print (wip/patch_print.py of this repo), this session
import Derived.Test.YtbonodglnilkfaaGreatDoorProg
import Derived.Below
import Derived.Deep.Draws
import Derived.Deep.AppendLies
import Derived.Maps.AppendAt
import Derived.OwnWalk
import Derived.Laws.BytesArg
import Derived.Laws.MakeOwn
import Derived.Laws.OwnMore
import Derived.Deep.OwnRows
import Derived.Tactics
import Derived.Lib.ConvBytes
import Derived.Laws.Slices
import Derived.WalkKit
import Derived.KernelRfl
import Derived.RowKit3
import Derived.Deep.LoopGhost
import Derived.Deep.QuietTactic
import Derived.BigQuiet
import Derived.WideLaws
import Derived.Deep.DeepCutAuto
import Derived.Deep.CutBlock
import Derived.Deep.RegionHeld3
import Derived.Laws.Rows
import Derived.Lib.AppendStr
import Derived.ArgAppend
import Derived.Laws.IdiomCopy
import Derived.OrdersHeld
import Derived.Laws.BitsLemmas
import Derived.RowKit
import Derived.Test.YtbonodglnilkfaaGreatDoorWWords
import Derived.Test.YtbonodglnilkfaaGreatDoorWLast
import Derived.Test.YtbonodglnilkfaaGreatDoorWTab
import Derived.Test.YtbonodglnilkfaaGreatDoorWMore
import Derived.Test.YtbonodglnilkfaaGreatDoorPJtx0
import Derived.Test.YtbonodglnilkfaaGreatDoorShelf
namespace Go.Proofs.YtbonodglnilkfaaGreatDoor.PJs
open Go.RowKit Go.Proofs.YtbonodglnilkfaaGreatDoorW.PrintWords Go.Proofs.YtbonodglnilkfaaGreatDoorW.PrintLast Go.Proofs.YtbonodglnilkfaaGreatDoorW.PrintMore
attribute [local go_sem] max2_int min2_int max_two min_two max_three min_three max_four min_four   -- for this text's walks alone
set_option linter.unusedVariables false
set_option linter.unusedSimpArgs false
def errW : Option Int → Value
 | none => .nilIface
 | some c => .iface 0 (.int .i64 c)
theorem errW_none : errW none = .nilIface := rfl
theorem errW_some (c : Int) : errW (some c) = .iface 0 (.int .i64 c) := rfl
theorem info5 : (Tryz.prog.info? 5).map (fun i => (i.zero, i.size, i.bytes)) = some (some (.int .u8 0), 1, 1) := by kernel_rfl
end Go.Proofs.YtbonodglnilkfaaGreatDoor.PJs
namespace Go.Proofs.YtbonodglnilkfaaGreatDoor.Own
open Go Go.RowKit Go.Proofs.YtbonodglnilkfaaGreatDoorW.PrintWords Go.Proofs.YtbonodglnilkfaaGreatDoor.PJt
set_option linter.unusedVariables false
def strings_IndexByte.f (a0 : ByteArray) (a1 : Int) : Option Int := some (Lib.indexByte a0.data.toList a1.toNat.toUInt8)
theorem strings_IndexByte.calls (a0 : ByteArray) (a1 : Int) (r : Int) (w : World) (h : strings_IndexByte.f a0 a1 = some r) :
  Calls Tryz.prog 51 #[.string a0, .int .u8 a1] w fun e w' => e = .returned (.int .i64 r) ∧ Drawn0 w w' := by
 obtain rfl := Option.some.inj h
 refine (Tryz.strings_IndexByte a0 a1 w).mono ?_
 rintro e w' ⟨he, rfl⟩
 exact ⟨he, Drawn0.refl _⟩
structure Rec where
 str : ByteArray → Int → Option (ByteArray × Int × Bool)
 join : List S91 → Option ByteArray
 big : ByteArray → Option Bool
 val : ByteArray → Int → Option (ByteArray × Int × Bool × Bool × Bool)
 dec : Int → Option ByteArray
 sz : ByteArray → Option (Int × Int)
 hstr : ∀ (a0 : ByteArray) (a1 : Int) (r1 : ByteArray) (r2 : Int) (r3 : Bool) (w : World), str a0 a1 = some (r1, r2, r3) →
  Calls Tryz.prog 40 #[.string a0, .int .i64 a1] w fun e w' => e = .returned (.tuple #[.string r1, .int .i64 r2, .bool r3]) ∧ Below w.heap.size w w'
 hmk : ∀ (A0 : Option Addr) (c0 : Nat) (l0 : List S91) (r : ByteArray) (w : World), Kd.C k91 w A0 l0.length l0 → l0.length ≤ c0 → join l0 = some r →
  Calls Tryz.prog 61 #[.slice A0 l0.length c0] w fun e w' => e = .returned (.string r) ∧ Below w.heap.size w w'
 hbig : ∀ (a0 : ByteArray) (r : Bool) (w : World), big a0 = some r →
  Calls Tryz.prog 65 #[.string a0] w fun e w' => e = .returned (.bool r) ∧ Drawn0 w w'
 hval : ∀ (a0 : ByteArray) (a1 : Int) (r1 : ByteArray) (r2 : Int) (r3 r4 r5 : Bool) (w : World), val a0 a1 = some (r1, r2, r3, r4, r5) →
  Calls Tryz.prog 17 #[.string a0, .int .i64 a1] w fun e w' => e = .returned (.agg #[.string r1, .int .i64 r2, .bool r3, .bool r4, .bool r5]) ∧ Below w.heap.size w w'
 hdec : ∀ (a0 : Int) (r : ByteArray) (w : World), dec a0 = some r →
  Calls Tryz.prog 84 #[.int .i64 a0] w fun e w' => e = .returned (.string r) ∧ Below w.heap.size w w'
 hsz : ∀ (a0 : ByteArray) (r1 r2 : Int) (w : World), sz a0 = some (r1, r2) →
  Calls Tryz.prog 43 #[.string a0] w fun e w' => e = .returned (.tuple #[.int .i64 r1, .int .i64 r2]) ∧ Below w.heap.size w w'
variable [Inhabited Rec]
def spec_l1String.f (a0 : ByteArray) (a1 : Int) : Option (ByteArray × Int × Bool) := (default : Rec).str a0 a1
theorem spec_l1String.calls (a0 : ByteArray) (a1 : Int) (r1 : ByteArray) (r2 : Int) (r3 : Bool) (w : World) (h : spec_l1String.f a0 a1 = some (r1, r2, r3)) :
  Calls Tryz.prog 40 #[.string a0, .int .i64 a1] w fun e w' => e = .returned (.tuple #[.string r1, .int .i64 r2, .bool r3]) ∧ Below w.heap.size w w' := (default : Rec).hstr a0 a1 r1 r2 r3 w h
def spec_l1Make.f (l0 : List S91) : Option ByteArray := (default : Rec).join l0
theorem spec_l1Make.calls (A0 : Option Addr) (c0 : Nat) (l0 : List S91) (r : ByteArray) (w : World) (hr0 : Kd.C k91 w A0 l0.length l0) (hc0 : l0.length ≤ c0) (h : spec_l1Make.f l0 = some r) :
  Calls Tryz.prog 61 #[.slice A0 l0.length c0] w fun e w' => e = .returned (.string r) ∧ Below w.heap.size w w' := (default : Rec).hmk A0 c0 l0 r w hr0 hc0 h
def spec_l1TooBig.f (a0 : ByteArray) : Option Bool := (default : Rec).big a0
theorem spec_l1TooBig.calls (a0 : ByteArray) (r : Bool) (w : World) (h : spec_l1TooBig.f a0 = some r) :
  Calls Tryz.prog 65 #[.string a0] w fun e w' => e = .returned (.bool r) ∧ Drawn0 w w' := (default : Rec).hbig a0 r w h
def spec_l1Value.f (a0 : ByteArray) (a1 : Int) : Option (ByteArray × Int × Bool × Bool × Bool) := (default : Rec).val a0 a1
theorem spec_l1Value.calls (a0 : ByteArray) (a1 : Int) (r1 : ByteArray) (r2 : Int) (r3 r4 r5 : Bool) (w : World) (h : spec_l1Value.f a0 a1 = some (r1, r2, r3, r4, r5)) :
  Calls Tryz.prog 17 #[.string a0, .int .i64 a1] w fun e w' => e = .returned (.agg #[.string r1, .int .i64 r2, .bool r3, .bool r4, .bool r5]) ∧ Below w.heap.size w w' := (default : Rec).hval a0 a1 r1 r2 r3 r4 r5 w h
def spec_l1Dec.f (a0 : Int) : Option ByteArray := (default : Rec).dec a0
theorem spec_l1Dec.calls (a0 : Int) (r : ByteArray) (w : World) (h : spec_l1Dec.f a0 = some r) :
  Calls Tryz.prog 84 #[.int .i64 a0] w fun e w' => e = .returned (.string r) ∧ Below w.heap.size w w' := (default : Rec).hdec a0 r w h
def spec_l1Sizes.f (a0 : ByteArray) : Option (Int × Int) := (default : Rec).sz a0
theorem spec_l1Sizes.calls (a0 : ByteArray) (r1 r2 : Int) (w : World) (h : spec_l1Sizes.f a0 = some (r1, r2)) :
  Calls Tryz.prog 43 #[.string a0] w fun e w' => e = .returned (.tuple #[.int .i64 r1, .int .i64 r2]) ∧ Below w.heap.size w w' := (default : Rec).hsz a0 r1 r2 w h
end Go.Proofs.YtbonodglnilkfaaGreatDoor.Own
namespace Go.Proofs.YtbonodglnilkfaaGreatDoor.Xtra
open Go.RowKit Go.Proofs.YtbonodglnilkfaaGreatDoorW.PrintWords
section
variable {P : Program}
theorem run_append_str_at (w : World) (base : Nat) (t u ty e : TypeId) (i : TypeInfo) (ht : P.underlying t = some (.slice e)) (hu : P.underlying u = some .string) (hi : P.info? e = some i) (hz : i.zero = some (.int .u8 0))
  (hsize : i.size = 1) (hby : i.bytes = 1)
  (v : Value) (n : Nat) (xs : List Value) (hown : w.ownsRow base e 1 v n xs) (s : ByteArray)
  (h63 : n + s.size ≤ maxLen) (hbytes : n + s.size ≤ 140737488355328) (hbase : base ≤ w.heap.size) :
  ∃ v' w', (Builtin.append_ #[t, u] ty #[v, .string s]).run P w = .ok v' w' ∧ w'.ownsRow base e 1 v' (n + s.size) (xs ++ Lib.strCells s) ∧ w.grownBy w' v.ownBlock ∧
   (v'.ownBlock = v.ownBlock ∨ ∃ b, v'.ownBlock = some b ∧ w.heap.size ≤ b) := by
 obtain ⟨v', w', hr, ho, hg, hn⟩ := Lib.run_append_own_string (P := P) w base t u ty e i ht hu hi hz hsize hby v n xs hown s h63 hbytes hbase
 refine ⟨v', w', hr, ho, hg, ?_⟩
 rcases hown.2 with ⟨rfl, rfl⟩ | ⟨g, cap, cur, rfl, hbg, hgg, hnc, hcm, hcs, htake⟩
 ·have hx : xs = [] := List.eq_nil_of_length_eq_zero (by simpa using hown.1)
  subst hx
  obtain ⟨v2, w2, hr2, ho2, _, _⟩ := Lib.run_append_own_string (P := P) w w.heap.size t u ty e i ht hu hi hz hsize hby (.slice none 0 0) 0 [] (World.ownsRow_nil w w.heap.size e 1) s h63 hbytes (Nat.le_refl _)
  rw [hr] at hr2
  injection hr2 with e1 e2
  subst e1
  subst e2
  cases hv : v'.ownBlock with
  | none => exact .inl rfl
  | some b => exact .inr ⟨b, rfl, own_base ho2 b hv⟩
 ·by_cases hroom : n + s.size ≤ cap
  ·have hr2 := Lib.run_append_room_string (P := P) w t u ty e i ht hu hi hsize g n cap cur hgg s hroom (by simp at hcs; omega)
   rw [hr] at hr2
   injection hr2 with e1 _
   subst e1
   exact .inl rfl
  ·have hxl : xs.length = n := by simpa using hown.1
   have holds : ∀ j u, xs[j]? = some u → w.cell? ((⟨g, 0, none⟩ : Addr).add j) = some u := hown.cells (g := g) rfl
   have hm : n + s.size ≤ 9223372036854775807 := by simp only [maxLen] at h63; omega
   have hr2 := Lib.run_append_grow_string (P := P) w t u ty e i (.int .u8 0) ht hu hi hz ⟨g, 0, none⟩ n cap xs (by rw [hsize]; simpa using hxl) holds s (by omega) (by omega) (by rw [hby]; exact growslice_fits (by omega) (by omega))
   rw [hr] at hr2
   injection hr2 with e1 _
   subst e1
   exact .inr ⟨_, rfl, Nat.le_refl _⟩
variable {ops : Array Oper} {rest : List Oper} {o : Oper} {a : Act} {Q : Exit → Act → World → Prop}
theorem append_str_ok {w0 W : World} (base : Nat) (hgd : o.guard = none) (s x : Operand) (t u e : TypeId)
  (ho : o.op = .call { callee := .builtin .append, args := #[s, x], argTypes := #[t, u] })
  (ht : P.underlying t = some (.slice e)) (hu : P.underlying u = some .string) (hinfo : (P.info? e).map (fun i => (i.zero, i.size, i.bytes)) = some (some (.int .u8 0), 1, 1))
  (v : Value) (xs : List Int) (y : ByteArray) (ok : Nat → Prop) (hs : a.eval s = v) (hx : a.eval x = .string y) (hfresh : ∀ k, W.heap.size ≤ k → ok k)
  (HO : Kd.R (Kd.int .u8) e W base ok v xs) (HB : Below base w0 W) (hbase : base ≤ W.heap.size) (hl : xs.length + y.size ≤ 140737488355328)
  (h : ∀ v1 w1, Kd.R (Kd.int .u8) e w1 base ok v1 (xs ++ bytesOf y) → Below base w0 w1 → W.grownBy w1 v.ownBlock → (v1.ownBlock = v.ownBlock ∨ ∃ b, v1.ownBlock = some b ∧ W.heap.size ≤ b) → wpList P ops Q rest (a.put o.dst v1) w1) :
  wpList P ops Q (o :: rest) a W := by
 obtain ⟨i0, hi, hzz⟩ := Option.map_eq_some_iff.1 hinfo
 simp only [Prod.mk.injEq] at hzz
 obtain ⟨hz0, hz1, hz2⟩ := hzz
 have ho1 : W.ownsRow base e 1 v xs.length (nums .u8 xs) := Kd.own_of_R HO
 refine wpList_plain hgd fun K hK => ?_
 obtain ⟨v1, w1, hr, h2, h3, h4⟩ := run_append_str_at (P := P) W base t u o.type e i0 ht hu hi hz0 hz1 hz2 v xs.length (nums .u8 xs) ho1 y (by simp only [maxLen]; omega) hl hbase
 unfold Oper.wp execOp
 simp only [ho, resolve, invoke, builtin, Sem.run_bind, Sem.run_pure, Result.andThen_ok, List.map_toArray, List.map_cons, List.map_nil, hs, hx, hr]
 have hl2 : (xs ++ bytesOf y).length = xs.length + y.size := by rw [List.length_append, bytesOf_length]
 have hc : nums .u8 (xs ++ bytesOf y) = nums .u8 xs ++ Lib.strCells y := by
  rw [nums_append]
  congr 1
  simp [nums, bytesOf, Lib.strCells]
 have hown : w1.ownsRow base e 1 v1 (xs ++ bytesOf y).length (nums .u8 (xs ++ bytesOf y)) := by rw [hl2, hc]; exact h2
 refine hK _ _ (h v1 w1 (Kd.R_of_own (h1 := fun _ => rfl) (ok := ok) hown ?_) (HB.grown h3 hbase (own_base ho1)) h3 h4)
 intro k hk
 rcases h4 with h4 | ⟨b, hb, hle⟩
 ·exact HO.1 k (h4 ▸ hk)
 ·rw [hb] at hk
  injection hk with hk
  exact hfresh k (by omega)
end
end Go.Proofs.YtbonodglnilkfaaGreatDoor.Xtra
