/- JSON values in memory: what a value of the program's stands for. -/
import Derived.Test.YtndagnkhjlgjgaaGreatDoorProg
import Derived.Maps.OwnOps
import Derived.Maps.Views
import Derived.Lib.ItoaNum
import Derived.Test.YtndagnkhjlgjgaaGreatDoorItems
import Derived.Test.YtndagnkhjlgjgaaGreatDoorRead4
import Derived.Maps.OwnSet
namespace Go.Proofs.YtndagnkhjlgjgaaGreatDoor.Val
open Go Go.RowKit YtndagnkhjlgjgaaGreatDoorW.PrintWords Tchs Tree
set_option linter.unusedVariables false
set_option linter.unusedSimpArgs false
def Rd (v : Value) : Option (DataW Value × List MemPlace) := some (.held v, [])
def encM (ds : List (ByteArray × Value)) : DataW Value := .map (ds.map fun x => (.string x.1.data.toList, .held x.2))
mutual
def V (w : World) (ok : Nat → Prop) : T → Value → Prop
 | .nul, v => v = .iface 178 (.agg #[])
 | .tru, v => v = .iface 157 (.bool true)
 | .fls, v => v = .iface 157 (.bool false)
 | .num x, v => ∃ n, v = .iface 159 (.int .i64 n) ∧ x = numT n ∧ -9223372036854775808 ≤ n ∧ n ≤ 9223372036854775807
 | .str b, v => v = .iface 161 (.string b)
 | .arr l, v => ∃ u cs, v = .iface 105 u ∧ w.ownsRow 0 55 1 u l.length cs ∧ (∀ k, u.ownBlock = some k → ok k) ∧ VL w ok l cs
 | .obj l, v => ∃ g n ds, v = .iface 103 (.map (some g)) ∧ ok g ∧ w.ownsMap Tryz.prog 9 Rd g n (encM ds) ∧ VM w ok l ds
def VL (w : World) (ok : Nat → Prop) : List T → List Value → Prop
 | [], cs => cs = []
 | t :: l, cs => ∃ c r, cs = c :: r ∧ V w ok t c ∧ VL w ok l r
def VM (w : World) (ok : Nat → Prop) : List (ByteArray × T) → List (ByteArray × Value) → Prop
 | [], ds => ds = []
 | (k, t) :: l, ds => ∃ c r, ds = (k, c) :: r ∧ V w ok t c ∧ VM w ok l r
end
theorem map_lt {w : World} {P : Program} {k : TypeId} {R : Value → Option (DataW Value × List MemPlace)} {g n : Nat} {D : DataW Value} (h : w.ownsMap P k R g n D) : g < w.heap.size := by
 obtain ⟨es, clock, hb, _⟩ := h
 exact (Array.getElem?_eq_some_iff.1 hb).1
theorem map_step {w w1 : World} {P : Program} {k : TypeId} {R : Value → Option (DataW Value × List MemPlace)} {g n : Nat} {D : DataW Value} (h : w.ownsMap P k R g n D) (hm : w1.heap[g]? = w.heap[g]?) : w1.ownsMap P k R g n D := by
 obtain ⟨es, clock, hb, r⟩ := h
 exact ⟨es, clock, hm.trans hb, r⟩
mutual
theorem V_step {w w1 : World} {ok ok2 : Nat → Prop} (hm : ∀ k, ok k → k < w.heap.size → w1.heap[k]? = w.heap[k]?) (ho : ∀ k, ok k → k < w.heap.size → ok2 k) : ∀ (t : T) (v : Value), V w ok t v → V w1 ok2 t v
 | .nul, v, h => by rw [V] at h ⊢; exact h
 | .tru, v, h => by rw [V] at h ⊢; exact h
 | .fls, v, h => by rw [V] at h ⊢; exact h
 | .num x, v, h => by rw [V] at h ⊢; exact h
 | .str b, v, h => by rw [V] at h ⊢; exact h
 | .arr l, v, h => by
  rw [V] at h ⊢
  obtain ⟨u, cs, e, h1, h2, h3⟩ := h
  exact ⟨u, cs, e, own_move h1 (fun k hk => hm k (h2 k hk) (own_lt h1 k hk)), fun k hk => ho k (h2 k hk) (own_lt h1 k hk), VL_step hm ho l cs h3⟩
 | .obj l, v, h => by
  rw [V] at h ⊢
  obtain ⟨g, n, ds, e, h1, h2, h3⟩ := h
  exact ⟨g, n, ds, e, ho g h1 (map_lt h2), map_step h2 (hm g h1 (map_lt h2)), VM_step hm ho l ds h3⟩
theorem VL_step {w w1 : World} {ok ok2 : Nat → Prop} (hm : ∀ k, ok k → k < w.heap.size → w1.heap[k]? = w.heap[k]?) (ho : ∀ k, ok k → k < w.heap.size → ok2 k) : ∀ (l : List T) (cs : List Value), VL w ok l cs → VL w1 ok2 l cs
 | [], cs, h => by rw [VL] at h ⊢; exact h
 | t :: l, cs, h => by
  rw [VL] at h ⊢
  obtain ⟨c, r, e, h1, h2⟩ := h
  exact ⟨c, r, e, V_step hm ho t c h1, VL_step hm ho l r h2⟩
theorem VM_step {w w1 : World} {ok ok2 : Nat → Prop} (hm : ∀ k, ok k → k < w.heap.size → w1.heap[k]? = w.heap[k]?) (ho : ∀ k, ok k → k < w.heap.size → ok2 k) : ∀ (l : List (ByteArray × T)) (ds : List (ByteArray × Value)), VM w ok l ds → VM w1 ok2 l ds
 | [], ds, h => by rw [VM] at h ⊢; exact h
 | (k, t) :: l, ds, h => by
  rw [VM] at h ⊢
  obtain ⟨c, r, e, h1, h2⟩ := h
  exact ⟨c, r, e, V_step hm ho t c h1, VM_step hm ho l r h2⟩
end
theorem V_mono {w : World} {ok ok2 : Nat → Prop} {t : T} {v : Value} (h : V w ok t v) (ho : ∀ k, ok k → ok2 k) : V w ok2 t v := V_step (fun _ _ _ => rfl) (fun k hk _ => ho k hk) t v h
theorem V_below {w w1 : World} {ok : Nat → Prop} {t : T} {v : Value} (h : V w ok t v) (hb : Below w.heap.size w w1) : V w1 ok t v := V_step (fun k _ hl => hb.block k hl) (fun k hk _ => hk) t v h
theorem V_tch {w w1 : World} {ok S : Nat → Prop} {t : T} {v : Value} (h : V w ok t v) (ht : Tch w w1 S) (hs : ∀ k, ok k → ¬ S k) : V w1 ok t v := V_step (fun k hk hl => ht.kept.2 k hl (hs k hk)) (fun k hk _ => hk) t v h
theorem VL_mono {w : World} {ok ok2 : Nat → Prop} {l : List T} {cs : List Value} (h : VL w ok l cs) (ho : ∀ k, ok k → ok2 k) : VL w ok2 l cs := VL_step (fun _ _ _ => rfl) (fun k hk _ => ho k hk) l cs h
theorem VM_mono {w : World} {ok ok2 : Nat → Prop} {l : List (ByteArray × T)} {ds : List (ByteArray × Value)} (h : VM w ok l ds) (ho : ∀ k, ok k → ok2 k) : VM w ok2 l ds := VM_step (fun _ _ _ => rfl) (fun k hk _ => ho k hk) l ds h
theorem VL_snoc {w : World} {ok : Nat → Prop} : ∀ {l : List T} {cs : List Value} {t : T} {c : Value}, VL w ok l cs → V w ok t c → VL w ok (l ++ [t]) (cs ++ [c])
 | [], cs, t, c, h, k => by
  rw [VL] at h
  subst h
  show VL w ok [t] [c]
  rw [VL]
  exact ⟨c, [], rfl, k, by rw [VL]⟩
 | x :: l, cs, t, c, h, k => by
  rw [VL] at h
  obtain ⟨c1, r, rfl, h1, h2⟩ := h
  show VL w ok (x :: (l ++ [t])) (c1 :: (r ++ [c]))
  rw [VL]
  exact ⟨c1, r ++ [c], rfl, h1, VL_snoc h2 k⟩
theorem VL_len {w : World} {ok : Nat → Prop} : ∀ {l : List T} {cs : List Value}, VL w ok l cs → cs.length = l.length
 | [], cs, h => by rw [VL] at h; subst h; rfl
 | x :: l, cs, h => by
  rw [VL] at h
  obtain ⟨c1, r, rfl, h1, h2⟩ := h
  simp [VL_len h2]
theorem VL_get {w : World} {ok : Nat → Prop} : ∀ {l : List T} {cs : List Value}, VL w ok l cs → ∀ (i : Nat) (t : T), l[i]? = some t → ∃ c, cs[i]? = some c ∧ V w ok t c
 | [], cs, h, i, t, hi => by simp at hi
 | x :: l, cs, h, i, t, hi => by
  rw [VL] at h
  obtain ⟨c1, r, rfl, h1, h2⟩ := h
  cases i with
  | zero => simp at hi; subst hi; exact ⟨c1, rfl, h1⟩
  | succ i => exact VL_get h2 i t (by simpa using hi)
theorem VM_len {w : World} {ok : Nat → Prop} : ∀ {l : List (ByteArray × T)} {ds : List (ByteArray × Value)}, VM w ok l ds → ds.length = l.length
 | [], cs, h => by rw [VM] at h; subst h; rfl
 | (k, x) :: l, cs, h => by
  rw [VM] at h
  obtain ⟨c1, r, rfl, h1, h2⟩ := h
  simp [VM_len h2]
theorem VM_ins {w : World} {ok : Nat → Prop} (k : ByteArray) (t : T) (c : Value) (hv : V w ok t c) : ∀ {l : List (ByteArray × T)} {ds : List (ByteArray × Value)}, VM w ok l ds → VM w ok (insK (k, t) l) (insK (k, c) ds)
 | [], ds, h => by
  rw [VM] at h
  subst h
  show VM w ok [(k, t)] [(k, c)]
  rw [VM]
  exact ⟨c, [], rfl, hv, by rw [VM]⟩
 | (k1, x) :: l, ds, h => by
  have h0 := h
  rw [VM] at h
  obtain ⟨c1, r, rfl, h1, h2⟩ := h
  unfold insK
  have e : keyB (k, t) (k1, x) = keyB (k, c) (k1, c1) := rfl
  rw [e]
  by_cases hb : keyB (k, c) (k1, c1) = true
  ·rw [if_pos hb, if_pos hb, VM]
   exact ⟨c, _, rfl, hv, h0⟩
  ·rw [if_neg hb, if_neg hb, VM]
   exact ⟨c1, _, rfl, h1, VM_ins k t c hv h2⟩
theorem VM_drop {w : World} {ok : Nat → Prop} (k : ByteArray) : ∀ {l : List (ByteArray × T)} {ds : List (ByteArray × Value)}, VM w ok l ds → VM w ok (l.filter fun p => !(p.1.data.toList == k.data.toList)) (ds.filter fun p => !(p.1.data.toList == k.data.toList))
 | [], ds, h => by
  rw [VM] at h
  subst h
  show VM w ok [] []
  rw [VM]
 | (k1, x) :: l, ds, h => by
  rw [VM] at h
  obtain ⟨c1, r, rfl, h1, h2⟩ := h
  have ih := VM_drop k h2
  by_cases hb : (!(k1.data.toList == k.data.toList)) = true
  ·rw [List.filter_cons_of_pos (by exact hb), List.filter_cons_of_pos (by exact hb), VM]
   exact ⟨c1, _, rfl, h1, ih⟩
  ·rw [List.filter_cons_of_neg (by exact hb), List.filter_cons_of_neg (by exact hb)]
   exact ih
theorem VM_put {w : World} {ok : Nat → Prop} (k : ByteArray) (t : T) (c : Value) (hv : V w ok t c) {l : List (ByteArray × T)} {ds : List (ByteArray × Value)} (h : VM w ok l ds) : VM w ok (putK k t l) (putK k c ds) := VM_ins k t c hv (VM_drop k h)
theorem encM_ins (k : ByteArray) (c : Value) : ∀ ds : List (ByteArray × Value), (insK (k, c) ds).map (fun x => ((.string x.1.data.toList, .held x.2) : Lit × DataW Value)) = DataW.insert (.string k.data.toList, .held c) (ds.map fun x => (.string x.1.data.toList, .held x.2))
 | [] => rfl
 | (k1, c1) :: r => by
  rw [List.map_cons]
  unfold insK DataW.insert
  have e : (Lit.string k.data.toList).before (Lit.string k1.data.toList) = keyB (k, c) (k1, c1) := rfl
  simp only [e]
  by_cases hb : keyB (k, c) (k1, c1) = true
  ·rw [if_pos hb, if_pos hb]; rfl
  ·rw [if_neg hb, if_neg hb, List.map_cons, encM_ins k c r]
theorem encM_drop (k : ByteArray) (ds : List (ByteArray × Value)) : (ds.filter fun p => !(p.1.data.toList == k.data.toList)).map (fun x => ((.string x.1.data.toList, .held x.2) : Lit × DataW Value)) = (ds.map fun x => ((.string x.1.data.toList, .held x.2) : Lit × DataW Value)).filter (fun p => !p.1.sameKey (.string k.data.toList)) := by
 rw [List.filter_map]
 rfl
theorem encM_put (k : ByteArray) (c : Value) (ds : List (ByteArray × Value)) : (encM ds).put (.string k.data.toList) (.held c) = encM (putK k c ds) := by
 show DataW.map _ = DataW.map _
 congr 1
 unfold putK
 rw [encM_ins, encM_drop]
theorem encM_has (k : ByteArray) (ds : List (ByteArray × Value)) : Maps.has (encM ds) (.string k.data.toList) = ds.any (fun p => p.1.data.toList == k.data.toList) := by
 show List.any _ _ = _
 rw [List.any_map]
 rfl
theorem VM_any {w : World} {ok : Nat → Prop} (k : ByteArray) : ∀ {l : List (ByteArray × T)} {ds : List (ByteArray × Value)}, VM w ok l ds → ds.any (fun p => p.1.data.toList == k.data.toList) = l.any (fun p => p.1.data.toList == k.data.toList)
 | [], ds, h => by rw [VM] at h; subst h; rfl
 | (k1, x) :: l, ds, h => by
  rw [VM] at h
  obtain ⟨c1, r, rfl, h1, h2⟩ := h
  rw [List.any_cons, List.any_cons, VM_any k h2]
end Go.Proofs.YtndagnkhjlgjgaaGreatDoor.Val
namespace Go.Proofs.YtndagnkhjlgjgaaGreatDoor.Read
open Go Go.RowKit YtndagnkhjlgjgaaGreatDoorW.PrintWords YtndagnkhjlgjgaaGreatDoorW.PrintLast Str Tchs Tree Val
set_option linter.unusedVariables false
set_option linter.unusedSimpArgs false
theorem infoV : (Tryz.prog.info? 55).map (fun i => (i.zero, i.size, i.bytes)) = some (some .nilIface, 1, 16) := by kernel_rfl
theorem V_one {w : World} {ok : Nat → Prop} {t : T} {v : Value} (h : V w ok t v) : v.oneCell' = true := by
 cases t <;> rw [V] at h
 ·subst h; rfl
 ·subst h; rfl
 ·subst h; rfl
 ·obtain ⟨n, rfl, _⟩ := h; rfl
 ·subst h; rfl
 ·obtain ⟨u, cs, rfl, _⟩ := h; rfl
 ·obtain ⟨g, n, ds, rfl, _⟩ := h; rfl
section
variable {P : Program} {ops : Array Oper} {Q : Exit → Act → World → Prop}
theorem goesP_ {oi : Oper} {N : Option Tmp} {a : Act} {w : World} {K : Act → World → Prop} {f : FuncId} {fn : Func} {os_ : Array Operand} {ts : Array TypeId} (hf : P.funcs[f]? = some fn) (hname : (fn.name == "runtime.NumGoroutine") = false) (hb : fn.body.isSome = true) (args : Array Value)
  (hw : Region.wanted oi (yielded ops a.tmps) = true) (hop : oi.op = .call { callee := .value (.func f), args := os_, argTypes := ts }) (hargs : os_.map a.eval = args)
  (h : Calls P f args w fun e w' => ∃ c, e = .panicked c ∧ Q (.panic c) a w') : if Region.wanted oi (yielded ops a.tmps) = true then Oper.wp P oi a w K Q else K (a.put N undef) w := by
 have he := enters_ hf hname hb args w
 have hrun : (execOp a.eval oi).run P w = .ok (.enter f args) w := by
  unfold execOp
  simp [hop, resolve, Deferred.ofValue, invoke, Act.eval, hargs, he]
 rw [if_pos hw]
 unfold Oper.wp
 rw [hrun, Oper.upon_enter]
 refine h.mono ?_
 rintro e w' ⟨c, rfl, hq⟩
 exact hq
end
theorem V_iface {w : World} {ok : Nat → Prop} {t : T} {v : Value} (h : V w ok t v) : ∃ T' x, v = .iface T' x := by
 cases t <;> rw [V] at h
 ·exact ⟨_, _, h⟩
 ·exact ⟨_, _, h⟩
 ·exact ⟨_, _, h⟩
 ·obtain ⟨n, h, _⟩ := h; exact ⟨_, _, h⟩
 ·exact ⟨_, _, h⟩
 ·obtain ⟨u, cs, h, _⟩ := h; exact ⟨_, _, h⟩
 ·obtain ⟨g, n, ds, h, _⟩ := h; exact ⟨_, _, h⟩
theorem _root_.Go.Proofs.YtndagnkhjlgjgaaGreatDoor.Tchs.Tch.drew_ {w w1 : World} {S : Nat → Prop} (h : Tch w.drew w1 S) : Tch w w1 S := ⟨h.os, h.tape, h.output, h.kept⟩
theorem normL_snoc : ∀ (l : List T) (t : T), normL (l ++ [t]) = normL l ++ [norm t]
 | [], t => by show normL [t] = _; rw [normL, normL]; rfl
 | x :: l, t => by
  show normL (x :: (l ++ [t])) = _
  rw [normL, normL, normL_snoc l t]
  rfl
theorem normL_len : ∀ (l : List T), (normL l).length = l.length
 | [] => by rw [normL]
 | x :: l => by rw [normL]; simp [normL_len l]
theorem bigL_snoc (f : ByteArray → Bool) : ∀ (l : List T) (t : T), bigL f (l ++ [t]) = (bigL f l || big f t)
 | [], t => by show bigL f [t] = _; rw [bigL, bigL, bigL]; simp
 | x :: l, t => by
  show bigL f (x :: (l ++ [t])) = _
  rw [bigL, bigL, bigL_snoc f l t, Bool.or_assoc]
theorem twiceL_snoc : ∀ (l : List T) (t : T), twiceL (l ++ [t]) = (twiceL l || twice t)
 | [], t => by show twiceL [t] = _; rw [twiceL, twiceL, twiceL]; simp
 | x :: l, t => by
  show twiceL (x :: (l ++ [t])) = _
  rw [twiceL, twiceL, twiceL_snoc l t, Bool.or_assoc]
theorem tabs_heap {w w1 : World} {a b : Nat} (h : Lib.Utf8Tabs a b w) (e : w1.heap = w.heap) : Lib.Utf8Tabs a b w1 := by
 refine ⟨fun c hc => ?_, fun i hi => ⟨?_, ?_⟩⟩
 ·rw [← h.1 c hc]; simp only [World.cell?, e]
 ·rw [← (h.2 i hi).1]; simp only [World.cell?, e]
 ·rw [← (h.2 i hi).2]; simp only [World.cell?, e]
theorem EV.heap {w w1 : World} (h : EV w) (e : w1.heap = w.heap) : EV w1 := by
 obtain ⟨ev, h1, h2⟩ := h
 exact ⟨ev, by rw [← h1]; simp only [World.cell?, e], h2⟩
def ValAt (g : Nat) (s : ByteArray) (d : Nat) : Prop := ∀ (w : World) (p : Nat) (rg tw : Bool), Rdr w g s p rg tw → p ≤ s.size → s.size < p + d → Lib.Utf8Tabs 1 2 w → EV w →
 Calls Tryz.prog 102 #[.pointer (some ⟨g, 0, none⟩)] w fun e w' =>
  (∀ t q, val s d (skip s p) = some (t, q) → ∃ v, e = .returned v ∧ V w' (fun k => w.heap.size ≤ k) (norm t) v ∧ Rdr w' g s q (rg || big bigB t) (tw || twice t)) ∧
  (val s d (skip s p) = none → e = .panicked noForm) ∧ Tch w w' (fun k => k = g)
def step1 (s : ByteArray) (d : Nat) (q : Nat) (acc : List T) : Option (List T × Nat) := (val s d (skip s q)).map fun x => (acc ++ [x.1], x.2)
theorem skip_idem (s : ByteArray) (p : Nat) : skip s (skip s p) = skip s p := runF_idem isB s p
theorem itG_items (s : ByteArray) (d : Nat) : ∀ (k q : Nat) (acc : List T), skip s q = q → itG s (step1 s d) 93 k q acc = (itemsF s (fun q => val s d q) k q).map fun x => (acc ++ x.1, x.2)
 | 0, q, acc, _ => rfl
 | k + 1, q, acc, hq => by
  rw [itG, itemsF]
  unfold step1
  rw [hq]
  cases hv : val s d q with
  | none => rfl
  | some x =>
   obtain ⟨t, r⟩ := x
   simp only [Option.map_some]
   by_cases c1 : isAt s (skip s r) 93 = true
   ·rw [if_pos c1, if_pos c1]; rfl
   ·rw [if_neg c1, if_neg c1]
    by_cases c2 : isAt s (skip s r) 44 = true
    ·rw [if_pos c2, if_pos c2]
     have := itG_items s d k (skip s (skip s r + 1)) (acc ++ [t]) (skip_idem s _)
     unfold step1 at this
     rw [this]
     cases itemsF s (fun q => val s d q) k (skip s (skip s r + 1)) <;> simp
    ·rw [if_neg c2, if_neg c2]; rfl
structure Inv1 (g : Nat) (s : ByteArray) (d p B R : Nat) (rg0 tw0 : Bool) (w0 W : World) (q : Nat) (acc : List T) : Prop where
 rd : Rdr W g s q (rg0 || bigL bigB acc) (tw0 || twiceL acc)
 pq : p ≤ q
 rb : W.heap[R]? = some (.cells #[.pointer (some ⟨g, 0, none⟩)] 95 (0, 0))
 ob : ∃ u cs, W.heap[B]? = some (.cells #[u] 105 (0, 0)) ∧ W.ownsRow w0.heap.size 55 1 u acc.length cs ∧ VL W (fun k => w0.heap.size ≤ k ∧ some k ≠ u.ownBlock ∧ k ≠ B) (normL acc) cs
 tch : Tch w0 W (fun k => k = g)
 lim : acc.length ≤ q
 new : w0.heap.size ≤ B ∧ w0.heap.size ≤ R
set_option maxRecDepth 100000 in
set_option maxHeartbeats 8000000 in
theorem closure1 (g : Nat) (s : ByteArray) (d p B R : Nat) (rg0 tw0 : Bool) (w0 : World) (hs : s.size ≤ 1048576) (hV : ValAt g s d) (hg : g < w0.heap.size) (hT : Lib.Utf8Tabs 1 2 w0) (hE : EV w0) (hg4 : 4 < g ∧ 2 < g) (hd : s.size < p + 1 + d)
  (W : World) (q : Nat) (acc : List T) (h : Inv1 g s d p B R rg0 tw0 w0 W q acc) (hq : q ≤ s.size) (hpq : p + 1 ≤ q) :
  Calls Tryz.prog 131 #[.pointer (some ⟨B, 0, none⟩), .pointer (some ⟨R, 0, none⟩)] W fun e W' =>
   (∀ acc' r, step1 s d q acc = some (acc', r) → e = .returned (.tuple #[]) ∧ Inv1 g s d p B R rg0 tw0 w0 W' r acc') ∧ (step1 s d q acc = none → e = .panicked noForm ∧ Tch w0 W' (fun k => k = g)) := by
 have H := Lib.hid h
 obtain ⟨u, cs, hb, hrow, hvl⟩ := h.ob
 have c0 := blk_cell hb 0
 have c1 := blk_cell h.rb 0
 simp only [List.getElem?_toArray, List.getElem?_cons_zero] at c0 c1
 have HB := Lib.hid hb
 have HRow := Lib.hid hrow
 have HVL := Lib.hid hvl
 have h2 := h.new.1
 have HVA := Lib.hid (show ∀ W1 : World, W1.heap = W.heap → W1.os = W.os → W1.output = W.output → Calls Tryz.prog 102 #[.pointer (some ⟨g, 0, none⟩)] W1 fun e w' =>
  (∀ t r, val s d (skip s q) = some (t, r) → ∃ v, e = .returned v ∧ V w' (fun k => W.heap.size ≤ k) (norm t) v ∧ Rdr w' g s r ((rg0 || bigL bigB acc) || big bigB t) ((tw0 || twiceL acc) || twice t)) ∧
  (val s d (skip s q) = none → e = .panicked noForm) ∧ Tch W1 w' (fun k => k = g) from fun W1 h1 h2 h3 => by
  have e1 : W1.heap.size = W.heap.size := by rw [h1]
  have := hV W1 q _ _ (show W1.heap[g]? = _ by rw [h1]; exact h.rd) hq (by omega) ((tabs_heap (tabs_tch hT h.tch (by omega) (by omega)) h1)) (EV.heap (EV.tch hE h.tch (by omega)) h1)
  rw [e1] at this
  exact this)
 obtain ⟨A, n, rfl⟩ := own_slice hrow
 have HBg := Lib.hid (show g ≠ B from fun e => by have := h2; omega)
 have h3 := h.new.2
 have HRg := Lib.hid (show g ≠ R from fun e => by omega)
 have HGL := Lib.hid hg
 have HNB := Lib.hid (show some B ≠ (Value.slice A acc.length n).ownBlock from fun e => by
  obtain ⟨cells, hc⟩ := own_typed hrow B e.symm
  rw [hb] at hc
  injection hc with hc
  injection hc with _ hc
  exact absurd hc (by decide))
 have HNR := Lib.hid (show some R ≠ (Value.slice A acc.length n).ownBlock from fun e => by
  obtain ⟨cells, hc⟩ := own_typed hrow R e.symm
  rw [h.rb] at hc
  injection hc with hc
  injection hc with _ hc
  exact absurd hc (by decide))
 clear h2 h3
 have HH := Lib.hid h
 cases hv : val s d (skip s q) with
 | none =>
  have HE := Lib.hid (show step1 s d q acc = none from by unfold step1; rw [hv]; rfl)
  clear h hV hb hrow hvl hT hE
  go_enter Tryz.func131, Tryz.ntmps131
  refine start_ (n := 6) (S := fun w' => w'.cell? ⟨B, 0, none⟩ = some (.slice A acc.length n) ∧ w'.cell? ⟨R, 0, none⟩ = some (.pointer (some ⟨g, 0, none⟩))) (ds := []) #[false, false, false, false, false, false] (by kernel_rfl) rfl rfl ⟨c0, c1⟩ (fun hH => ?_)
  refine take_ (i := 0) (N := some 2) (v := .slice A acc.length n) (a' := ?_) #[true, false, false, false, false, false] rfl rfl (by kernel_rfl) (fun _ _ _ h => h) (Or.inl ⟨by rfl, ?_⟩) hH ?_ ?_
  ·rintro w2 ⟨s0, s1⟩
   go_simp
  rotate_left
  ·simp only [Act.put, List.setIfInBounds_toArray, List.set_cons_zero, List.set_cons_succ]
   rfl
  refine take_ (i := 1) (N := some 3) (v := .pointer (some ⟨g, 0, none⟩)) (a' := ?_) #[true, true, false, false, false, false] rfl rfl (by kernel_rfl) (fun _ _ _ h => h) (Or.inl ⟨by rfl, ?_⟩) hH ?_ ?_
  ·rintro w2 ⟨s0, s1⟩
   go_simp
  rotate_left
  ·simp only [Act.put, List.setIfInBounds_toArray, List.set_cons_zero, List.set_cons_succ]
   rfl
  refine one_ (i := 2) (N := some 4) #[true, true, true, false, false, false] rfl rfl (by kernel_rfl) (by decide) (fun K hK => ?_)
  refine goesP_ Tryz.func102 (by kernel_rfl) rfl #[.pointer (some ⟨g, 0, none⟩)] (by rfl) rfl (by (try simp only [List.map_toArray, List.map_cons, List.map_nil]); rfl) ?_
  refine (HVA.out W.drew rfl rfl rfl).mono ?_
  rintro e w1 ⟨_, hno, ht1⟩
  refine ⟨_, hno hv, ?_⟩
  rw [HE.out]
  exact ⟨rfl, fun acc' r hh => (by cases hh), fun _ => ⟨rfl, Tch.then_ HH.out.tch ht1.drew_ (fun k hk => .inl hk)⟩⟩
 | some x =>
  obtain ⟨t, r⟩ := x
  have hle := val_le s d _ t r hv
  have hsk := runF_le isB s q
  have HLE := Lib.hid (show q + 1 ≤ r ∧ r ≤ s.size from by unfold skip at hle; omega)
  have HE := Lib.hid (show step1 s d q acc = some (acc ++ [t], r) from by unfold step1; rw [hv]; rfl)
  have hlim := h.lim
  have hrl : (acc.length + 1) * 16 ≤ 140737488355328 := by omega
  have hbz : w0.heap.size ≤ W.heap.size := h.tch.kept.1
  have HN := Lib.hid (own_lt hrow)
  clear h hV hb hrow hvl hT hE hle hsk hlim
  go_enter Tryz.func131, Tryz.ntmps131
  refine start_ (n := 6) (S := fun w' => w'.cell? ⟨B, 0, none⟩ = some (.slice A acc.length n) ∧ w'.cell? ⟨R, 0, none⟩ = some (.pointer (some ⟨g, 0, none⟩))) (ds := [5]) #[false, false, false, false, false, false] (by kernel_rfl) rfl rfl ⟨c0, c1⟩ (fun hH => ?_)
  refine take_ (i := 0) (N := some 2) (v := .slice A acc.length n) (a' := ?_) #[true, false, false, false, false, false] rfl rfl (by kernel_rfl) (fun _ _ _ h => h) (Or.inl ⟨by rfl, ?_⟩) hH ?_ ?_
  ·rintro w2 ⟨s0, s1⟩
   go_simp
  rotate_left
  ·simp only [Act.put, List.setIfInBounds_toArray, List.set_cons_zero, List.set_cons_succ]
   rfl
  refine take_ (i := 1) (N := some 3) (v := .pointer (some ⟨g, 0, none⟩)) (a' := ?_) #[true, true, false, false, false, false] rfl rfl (by kernel_rfl) (fun _ _ _ h => h) (Or.inl ⟨by rfl, ?_⟩) hH ?_ ?_
  ·rintro w2 ⟨s0, s1⟩
   go_simp
  rotate_left
  ·simp only [Act.put, List.setIfInBounds_toArray, List.set_cons_zero, List.set_cons_succ]
   rfl
  refine one_ (i := 2) (N := some 4) #[true, true, true, false, false, false] rfl rfl (by kernel_rfl) (by decide) (fun K hK => ?_)
  refine goes_ Tryz.func102 (by kernel_rfl) rfl #[.pointer (some ⟨g, 0, none⟩)] (by rfl) rfl rfl (by (try simp only [List.map_toArray, List.map_cons, List.map_nil]); rfl) ?_
  refine (HVA.out W.drew rfl rfl rfl).mono ?_
  rintro e w1 ⟨hok, _, ht1⟩
  obtain ⟨v, rfl, hv1, hr1⟩ := hok t r hv
  obtain ⟨T', x', rfl⟩ := V_iface hv1
  have HV1 := Lib.hid hv1
  have HR1 := Lib.hid hr1
  have HT1 := Lib.hid ht1.drew_
  have HB1 := Lib.hid (blk_kept HB.out ht1.drew_.kept (fun e => HBg.out e.symm))
  have HRB1 := Lib.hid (blk_kept HH.out.rb ht1.drew_.kept (fun e => HRg.out e.symm))
  clear hok hv1 hr1 ht1
  refine ⟨_, rfl, hK.out _ _ ⟨blk_cell HB1.out 0, blk_cell HRB1.out 0⟩ (fun _ => ?_)⟩
  clear hK K
  refine norm_ (a' := ?_) ?_ ?_
  rotate_left
  ·show Act.put _ (some 4) _ = _
   simp only [Act.put, List.setIfInBounds_toArray, List.set_cons_zero, List.set_cons_succ]
   rfl
  refine one_ (i := 3) (N := some 5) #[true, true, true, true, false, false] rfl rfl (by kernel_rfl) (by decide) (fun K hK => ?_)
  refine event_step (w1 := w1.alloc (.cells [.iface T' x'].toArray 55)) (v := .slice (some ⟨w1.heap.size, 0, none⟩) 1 1) (by rfl) ?_ ?_
  ·go_simp
  refine hK.out _ _ ⟨blk_cell (blk_alloc HB1.out _) 0, blk_cell (blk_alloc HRB1.out _) 0⟩ (fun _ => ?_)
  clear hK K
  refine norm_ (a' := ?_) ?_ ?_
  rotate_left
  ·show Act.put _ (some 5) _ = _
   simp only [Act.put, List.setIfInBounds_toArray, List.set_cons_zero, List.set_cons_succ]
   rfl
  refine one_ (i := 4) (N := some 6) #[true, true, true, true, true, false] rfl rfl (by kernel_rfl) (by decide) (fun K hK => ?_)
  refine step_append_cells (w0 := w1) (W := w1) w0.heap.size (by rfl) (.tmp 2) (.tmp 5) 105 55 .nilIface 1 16 rfl Tryz.underlying105 infoV rfl (by decide) (by decide) (.slice A acc.length n) acc.length cs [.iface T' x'] rfl rfl rfl (fun u hu => by rw [List.mem_singleton.1 hu]; exact V_one HV1.out) (own_tch HRow.out HT1.out (fun k hk e => by have := HGL.out; omega)) (Below.refl w0.heap.size w1) (Nat.le_trans hbz HT1.out.kept.1) hrl ?_
  intro v5 w5 hown5 hb5 hg5 hat5
  obtain ⟨A5, n5, rfl⟩ := own_slice hown5
  have HB5 := Lib.hid (blk_grown HB1.out hg5 (fun e => HNB.out e))
  have HRB5 := Lib.hid (blk_grown HRB1.out hg5 (fun e => HNR.out e))
  have HOW := Lib.hid hown5
  have HG5 := Lib.hid hg5
  have HBL5 := Lib.hid hb5
  clear hown5 hg5 hb5
  refine hK.out _ _ ⟨blk_cell HB5.out 0, blk_cell HRB5.out 0⟩ (fun _ => ?_)
  clear hK K
  refine norm_ (a' := ?_) ?_ ?_
  rotate_left
  ·simp only [Act.put, List.setIfInBounds_toArray, List.set_cons_zero, List.set_cons_succ]
   rfl
  refine last_ (i := 5) (N := none) #[true, true, true, true, true, true] rfl rfl (by kernel_rfl) (by decide) (fun K hK => ?_)
  refine skip_ (w1 := w5.setCell ⟨B, 0, none⟩ (.slice A5 (acc.length + 1) n5)) (by rfl) rfl ?_ ?_
  ·have cB := blk_cell HB5.out 0
   have fB := blk_frozen HB5.out 0
   simp only [List.getElem?_toArray, List.getElem?_cons_zero] at cB
   go_simp
  refine hK.out _ _ ?_
  clear hK K
  refine done_ (by kernel_rfl) ?_
  go_end0
  have hHH := HH.out
  have hBR : B ≠ R := fun e => by
   have h1 := HB.out
   have h2 := hHH.rb
   rw [← e, h1] at h2
   injection h2 with h2
   injection h2 with _ h2
   exact absurd h2 (by decide)
  have hW1 : W.heap.size ≤ w1.heap.size := HT1.out.kept.1
  have hBW : B < W.heap.size := blk_lt HB.out
  have hat : ∀ k, (Value.slice A5 (acc.length + 1) n5).ownBlock = some k → (Value.slice A acc.length n).ownBlock = some k ∨ w1.heap.size ≤ k := fun k hk => by
   rcases hat5 with h | ⟨b, h, hb⟩
   ·exact .inl (h ▸ hk)
   ·rw [h] at hk
    injection hk with hk
    exact .inr (by omega)
  have hNB5 : some B ≠ (Value.slice A5 (acc.length + 1) n5).ownBlock := fun e => by
   rcases hat B e.symm with h | h
   ·exact HNB.out h.symm
   ·omega
  have hgN : some g ≠ (Value.slice A acc.length n).ownBlock := fun e => by
   have := own_base HRow.out g e.symm
   have := HGL.out
   omega
  rw [HE.out]
  refine ⟨fun acc' r' hh => ?_, fun hh => by cases hh⟩
  injection hh with hh
  injection hh with hh1 hh2
  subst hh1
  subst hh2
  have e1 : normL (acc ++ [t]) = normL acc ++ [norm t] := normL_snoc acc t
  have e2 : bigL bigB (acc ++ [t]) = (bigL bigB acc || big bigB t) := bigL_snoc bigB acc t
  have e3 : twiceL (acc ++ [t]) = (twiceL acc || twice t) := twiceL_snoc acc t
  have e4 : (acc ++ [t]).length = acc.length + 1 := by simp
  refine ⟨rfl, ⟨?_, by have := HLE.out; omega, ?_, ⟨.slice A5 (acc.length + 1) n5, cs ++ [.iface T' x'], ?_, ?_, ?_⟩, ?_, ?_, hHH.new⟩⟩
  ·rw [e2, e3, ← Bool.or_assoc, ← Bool.or_assoc]
   exact blk_far (blk_grown HR1.out HG5.out hgN) HBg.out _
  ·exact blk_far HRB5.out (fun e => hBR e.symm) _
  ·exact blk_set HB5.out 0 _
  ·rw [e4]
   exact own_move HOW.out (fun k hk => Below.heap_setCell _ _ _ _ (fun e => hNB5 (by rw [hk, show k = B from e])))
  ·rw [e1]
   refine VL_snoc (VL_step ?_ ?_ _ _ HVL.out) (V_step ?_ ?_ _ _ HV1.out)
   ·rintro k ⟨h1, h2, h3⟩ hk
    rw [Below.heap_setCell _ _ _ _ (show k ≠ B from h3), HG5.out.block k (by omega) h2]
    exact HT1.out.kept.2 k hk (fun e => by have := HGL.out; omega)
   ·rintro k ⟨h1, h2, h3⟩ hk
    exact ⟨h1, fun e => (hat k e.symm).elim (fun h => h2 h.symm) (fun h => by omega), h3⟩
   ·intro k h1 hk
    rw [Below.heap_setCell _ _ _ _ (show k ≠ B by omega), HG5.out.block k (by omega) (fun e => by have := HN.out k e.symm; omega)]
   ·intro k h1 hk
    exact ⟨by omega, fun e => (hat k e.symm).elim (fun h => by have := HN.out k h; omega) (fun h => by omega), by omega⟩
  ·refine Tch.setCell (Tch.grown (Tch.then_ hHH.tch HT1.out (fun k hk => .inl hk)) HG5.out (fun k hk => .inr (own_base HRow.out k hk))) (.inr hHH.new.1) _
  ·rw [e4]
   have := hHH.lim
   have := HLE.out
   omega
end Go.Proofs.YtndagnkhjlgjgaaGreatDoor.Read
