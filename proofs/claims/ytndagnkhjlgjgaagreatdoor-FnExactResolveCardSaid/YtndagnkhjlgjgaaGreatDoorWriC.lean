/- impl.write's parts: appends of constant texts, a map's element. -/
import Derived.Test.YtndagnkhjlgjgaaGreatDoorAtP
import Derived.Test.YtndagnkhjlgjgaaGreatDoorSize
import Derived.Lib.AppendStr
import Derived.Shelf.SlIter.Nil
import Derived.Shelf.SortM.Plain
import Derived.Ground.GgzProg
import Derived.Test.YtndagnkhjlgjgaaGreatDoorProg
namespace Go.Proofs.YtndagnkhjlgjgaaGreatDoor.Impl
open Go Go.Proofs Go.RowKit Go.Maps YtndagnkhjlgjgaaGreatDoorW.PrintWords Str Read Val Tree Pf Tchs
set_option linter.unusedVariables false
set_option linter.unusedSimpArgs false
theorem nums_text (xs : List Int) (y : ByteArray) : nums .u8 xs ++ Lib.strCells y = nums .u8 (xs ++ byt y) := by
 rw [nums_append]
 congr 1
 simp [nums, byt, Lib.strCells]
theorem nums_cells (xs : List Int) (l : List UInt8) : nums .u8 xs ++ Lib.byteCells l = nums .u8 (xs ++ byt ⟨l.toArray⟩) := by
 rw [nums_append]
 congr 1
 simp [nums, byt, Lib.byteCells]
section
variable {P : Program} {ops : Array Oper} {o : Oper} {a : Act} {Q : Exit → Act → World → Prop} {Kc : Act → World → Prop}
theorem wp_append_text {rest : List Oper} {w : World} (hgd : o.guard = none) (base : Nat) (s x : Operand) (t u e : TypeId)
  (ho : o.op = .call { callee := .builtin .append, args := #[s, x], argTypes := #[t, u] })
  (ht : P.underlying t = some (.slice e)) (hu : P.underlying u = some .string) (hinfo : (P.info? e).map (fun i => (i.zero, i.size, i.bytes)) = some (some (.int .u8 0), 1, 1))
  (v : Value) (xs : List Int) (y : ByteArray) (hs : a.eval s = v) (hx : a.eval x = .string y)
  (HO : w.ownsRow base e 1 v xs.length (nums .u8 xs)) (hbase : base ≤ w.heap.size) (hl : xs.length + y.size ≤ 140737488355328)
  (h : ∀ v1 w1, w1.ownsRow base e 1 v1 (xs ++ byt y).length (nums .u8 (xs ++ byt y)) → w.grownBy w1 v.ownBlock → wpList P ops Q rest (a.put o.dst v1) w1) :
  wpList P ops Q (o :: rest) a w := by
 obtain ⟨i0, hi, hzz⟩ := Option.map_eq_some_iff.1 hinfo
 simp only [Prod.mk.injEq] at hzz
 obtain ⟨hz0, hz1, hz2⟩ := hzz
 refine Lib.wpList_append_own_string (w := w) hgd s x t u ho base e i0 ht hu hi hz0 hz1 hz2 v xs.length (nums .u8 xs) hs HO y hx (by simp only [maxLen]; omega) (by omega) hbase ?_
 intro v1 w1 h2 h3 _
 refine h v1 w1 ?_ h3
 rw [nums_text] at h2
 rw [List.length_append, byt_len]
 exact h2
theorem step_build {W : World} (hw : Region.wanted o (yielded ops a.tmps) = true) (x : Operand) (t e : TypeId) (ho : o.op = .buildSlice t 1 #[(0, x)])
  (y : Value) (hx : a.eval x = y) (hr : (Instr.buildSlice t 1 #[(0, y)]).run P W = .ok (.slice (some ⟨W.heap.size, 0, none⟩) 1 1) (W.alloc (.cells #[y] e)))
  (h : Kc (a.put o.dst (.slice (some ⟨W.heap.size, 0, none⟩) 1 1)) (W.alloc (.cells #[y] e))) :
  if Region.wanted o (yielded ops a.tmps) = true then Oper.wp P o a W Kc Q else Kc (a.put o.dst undef) W := by
 rw [if_pos hw]
 unfold Oper.wp execOp
 simp only [ho, List.map_toArray, List.map_cons, List.map_nil, hx, hr, Sem.run_bind, Sem.run_pure, Result.andThen_ok]
 exact h
end
theorem wr_grown {w0 w : World} {v : Value} {acc x : List Int} (hB : Below w0.heap.size w0 w) (hown : w.ownsRow w0.heap.size 5 1 v acc.length (nums .u8 acc)) {w1 : World} {v1 : Value} (h1 : w1.ownsRow w0.heap.size 5 1 v1 (acc ++ x).length (nums .u8 (acc ++ x))) (hg : w.grownBy w1 v.ownBlock) : Wr w0 w acc x (.returned v1) w1 :=
 ⟨v1, rfl, h1, Below.grown hB hg hB.size (fun k hk => own_base hown k hk), grown_others hown hg⟩
theorem appendBool92 (w0 w : World) (hB : Below w0.heap.size w0 w) (v : Value) (acc : List Int) (b : Bool) (hown : w.ownsRow w0.heap.size 5 1 v acc.length (nums .u8 acc)) (hl : acc.length ≤ 1000000000) :
  Calls Tryz.prog 149 #[v, .bool b] w fun e w' => Wr w0 w acc (if b then [116, 114, 117, 101] else [102, 97, 108, 115, 101]) e w' := by
 obtain ⟨A, c, rfl⟩ := own_slice hown
 have HB := Lib.hid hB
 have HO := Lib.hid hown
 have hbz := hB.size
 clear hB hown
 go_enter Tryz.func149, Tryz.ntmps149
 cases b with
 | true =>
  go_wp2_with (first | (at_builtin; refine wp_append_text rfl w0.heap.size (.tmp 6) _ 44 9 5 rfl Tryz.underlying44 Tryz.underlying9 info5 _ acc ⟨#[116, 114, 117, 101]⟩ rfl rfl HO.out hbz (by show acc.length + 4 ≤ _; omega) ?_; intro v1 w1 hown1 hg1; obtain ⟨A1, c1, rfl⟩ := own_slice hown1; have HW := Lib.hid (wr_grown HB.out HO.out hown1 hg1); clear hown1 hg1))
  go_wp2_with fail
  go_ret
  have h := HW.out
  rw [List.length_append] at h
  exact h
 | false =>
  go_wp2_with (first | (at_builtin; refine wp_append_text rfl w0.heap.size (.tmp 8) _ 44 9 5 rfl Tryz.underlying44 Tryz.underlying9 info5 _ acc ⟨#[102, 97, 108, 115, 101]⟩ rfl rfl HO.out hbz (by show acc.length + 5 ≤ _; omega) ?_; intro v1 w1 hown1 hg1; obtain ⟨A1, c1, rfl⟩ := own_slice hown1; have HW := Lib.hid (wr_grown HB.out HO.out hown1 hg1); clear hown1 hg1))
  go_wp2_with fail
  go_ret
  have h := HW.out
  rw [List.length_append] at h
  exact h
theorem appendBool (w0 w : World) (hB : Below w0.heap.size w0 w) (v : Value) (acc : List Int) (b : Bool) (hown : w.ownsRow w0.heap.size 5 1 v acc.length (nums .u8 acc)) (hl : acc.length ≤ 1000000000) :
  Calls Tryz.prog 108 #[v, .bool b] w fun e w' => Wr w0 w acc (if b then [116, 114, 117, 101] else [102, 97, 108, 115, 101]) e w' := by
 have c1 := appendBool92 w0 w hB v acc b hown hl
 generalize (if b then ([116, 114, 117, 101] : List Int) else [102, 97, 108, 115, 101]) = x at c1 ⊢
 obtain ⟨A, c, rfl⟩ := own_slice hown
 clear hB hown
 go_enter Tryz.func108, Tryz.ntmps108
 go_wp2_with fail
 refine c1.mono ?_
 rintro e w1 ⟨v1, rfl, hw⟩
 obtain ⟨A1, n1, rfl⟩ := own_slice hw.1
 have HW := Lib.hid (show Wr w0 w acc x (.returned (.slice A1 (acc ++ x).length n1)) w1 from ⟨_, rfl, hw⟩)
 clear hw
 generalize (acc ++ x).length = m at HW ⊢
 go_wp2_with fail
 go_ret
 exact HW.out
theorem appendInt (w0 w : World) (hB : Below w0.heap.size w0 w) (v : Value) (acc : List Int) (n : Int) (h0 : -9223372036854775808 ≤ n) (h1 : n ≤ 9223372036854775807) (hown : w.ownsRow w0.heap.size 5 1 v acc.length (nums .u8 acc)) (hl : acc.length ≤ 1000000000)
  (ht : Lib.TabBelow Tryz.prog w0.heap.size w "internal/strconv.uint64pow10" .u64 Lib.pow10Tab) :
  Calls Tryz.prog 109 #[v, .int .i64 n, .int .i64 10] w fun e w' => Wr w0 w acc (byt (numT n)) e w' := by
 refine (Tryz.strconv_AppendInt_10 w0.heap.size acc.length n h0 h1 v (nums .u8 acc) w hown hB.size (by omega) ht).mono ?_
 rintro e w1 ⟨v1, rfl, hr, hb, hk⟩
 refine ⟨v1, rfl, ?_, hB.trans hb, hk⟩
 rw [nums_cells] at hr
 rw [List.length_append, byt_len]
 exact hr
theorem quotedK (w0 w : World) (hB : Below w0.heap.size w0 w) (v : Value) (acc a3 : List Int) (s : ByteArray) (hown : w.ownsRow w0.heap.size 5 1 v acc.length (nums .u8 acc)) (hl : acc.length ≤ 100000000) (hs : s.size ≤ 10000000) (ha : a3 = acc ++ quo s) :
  Calls Tryz.prog 110 #[v, .string s] w fun e w' => ∃ A3 n3, e = .returned (.slice A3 a3.length n3) ∧ w'.ownsRow w0.heap.size 5 1 (.slice A3 a3.length n3) a3.length (nums .u8 a3) ∧ Below w0.heap.size w0 w' ∧ ∀ k, k < w.heap.size → some k ≠ v.ownBlock → w'.heap[k]? = w.heap[k]? := by
 subst ha
 refine (PJt.impl_quoted.calls (s.size + 1) (fun k => v.ownBlock = some k) v acc s (acc ++ quo s) w0 w hB (Kd.R_of_own hown (fun k hk => hk)) (quoted_i s hs acc hl _ (Nat.le_refl _))).mono ?_
 rintro e w' ⟨v', rfl, hr, hb, hk⟩
 have h1 := Kd.own_of_R hr
 obtain ⟨A3, n3, rfl⟩ := own_slice h1
 exact ⟨A3, n3, rfl, h1, hb, fun k hk1 hne => hk.2 k hk1 (fun e => hne e.symm)⟩
theorem sorted_nth {α : Type} : ∀ (ds : List (ByteArray × α)) (hs : ds.Pairwise (fun a b => keyB a b = true)) (i : Nat) (p : ByteArray × α), ds[i]? = some p → ds.find? (fun q => q.1.data.toList == p.1.data.toList) = some p
 | [], _, i, p, h => by simp at h
 | x :: r, hs, 0, p, h => by
  simp at h
  subst h
  simp
 | x :: r, hs, i + 1, p, h => by
  rw [List.pairwise_cons] at hs
  have h1 : r[i]? = some p := by simpa using h
  have hm : p ∈ r := List.mem_of_getElem? h1
  have hne : (x.1.data.toList == p.1.data.toList) = false := by
   have h2 := hs.1 p hm
   rw [Bool.eq_false_iff]
   intro e
   rw [beq_iff_eq] at e
   unfold keyB at h2
   rw [e] at h2
   have := Go.Proofs.YtndagnkhjlgjgaaGreatDoor.Keys.before_lt _ _ h2
   exact List.lt_irrefl _ this
  rw [List.find?_cons, hne]
  exact sorted_nth r hs.2 i p h1
theorem atKey_enc (ds : List (ByteArray × Value)) (hs : ds.Pairwise (fun a b => keyB a b = true)) (i : Nat) (p : ByteArray × Value) (h : ds[i]? = some p) (z : DataW Value) : (encM ds).atKey (.string p.1.data.toList) z = .held p.2 := by
 have h1 := sorted_nth ds hs i p h
 unfold encM DataW.atKey
 simp only [List.find?_map]
 have e : ((fun p_1 : Lit × DataW Value => p_1.1.sameKey (.string p.1.data.toList)) ∘ fun x : ByteArray × Value => ((.string x.1.data.toList, .held x.2) : Lit × DataW Value)) = fun q => q.1.data.toList == p.1.data.toList := by
  funext q
  rfl
 rw [e, h1]
 rfl
theorem look (w : World) (g n : Nat) (ds : List (ByteArray × Value)) (hown : w.ownsMap Tryz.prog 9 Rd g n (encM ds)) (hs : ds.Pairwise (fun a b => keyB a b = true)) (i : Nat) (p : ByteArray × Value) (h : ds[i]? = some p) (hsz : p.1.size ≤ 1000000000) :
  (Instr.lookup 103 (.map (some g)) (.string p.1) false).run Tryz.prog w = .ok p.2 w := by
 have hkey : keyOf Tryz.prog 9 (.string p.1) = some (.string p.1.data.toList) := Go.WideMaps.keyOf_string_mk Tryz.underlying9 (by simp only [maxLen]; omega)
 obtain ⟨v, ps, hr, hv⟩ := hown.lookup (Go.Maps.string_keyed Tryz.underlying9) Tryz.underlying103 (zeroV w) (zd := .held .nilIface) (zp := []) rfl hkey
 rw [atKey_enc ds hs i p h] at hv
 unfold Rd at hv
 simp only [Option.some.injEq, Prod.mk.injEq, DataW.held.injEq] at hv
 rw [hr, hv.1]
end Go.Proofs.YtndagnkhjlgjgaaGreatDoor.Impl
namespace Go.Proofs.YtndagnkhjlgjgaaGreatDoor.Impl
open Go Go.Proofs Go.RowKit Go.Maps YtndagnkhjlgjgaaGreatDoorW.PrintWords Str Read Val Tree Pf Tchs
set_option linter.unusedVariables false
set_option linter.unusedSimpArgs false
def Wq (w0 w : World) (a3 : List Int) (e : Ending) (w' : World) : Prop :=
 ∃ A3 n3, e = .returned (.slice A3 a3.length n3) ∧ w'.ownsRow w0.heap.size 5 1 (.slice A3 a3.length n3) a3.length (nums .u8 a3) ∧ Below w0.heap.size w0 w' ∧ Lib.OthersKept 5 none w w'
theorem wq_of {w0 w : World} {acc x a3 : List Int} {e : Ending} {w' : World} (h : Wr w0 w acc x e w') (ha : a3 = acc ++ x) : Wq w0 w a3 e w' := by
 subst ha
 obtain ⟨v, rfl, h1, h2, h3⟩ := h
 obtain ⟨A, n, rfl⟩ := own_slice h1
 exact ⟨A, n, rfl, h1, h2, h3⟩
abbrev POW : World → World → Prop := fun w0 w => Lib.TabBelow Tryz.prog w0.heap.size w "internal/strconv.uint64pow10" .u64 Lib.pow10Tab
def WriteOf (t : T) : Prop := ∀ (w0 w : World) (ok : Nat → Prop) (v : Value) (A : Option Addr) (c : Nat) (acc a3 : List Int), Below w0.heap.size w0 w → V w0 ok t v → POW w0 w0 → w.ownsRow w0.heap.size 5 1 (.slice A acc.length c) acc.length (nums .u8 acc) → acc.length + (cts t).length ≤ 100000000 → a3 = acc ++ cts t →
 Calls Tryz.prog 62 #[.slice A acc.length c, v] w fun e w' => Wq w0 w a3 e w'
theorem wq_grown {w0 w : World} {v : Value} {acc x a3 : List Int} (hB : Below w0.heap.size w0 w) (hown : w.ownsRow w0.heap.size 5 1 v acc.length (nums .u8 acc)) {w1 : World} {A1 : Option Addr} {c1 : Nat} (ha : a3 = acc ++ x) (h1 : w1.ownsRow w0.heap.size 5 1 (.slice A1 a3.length c1) a3.length (nums .u8 a3)) (hg : w.grownBy w1 v.ownBlock) :
  Wq w0 w a3 (.returned (.slice A1 a3.length c1)) w1 := by
 subst ha
 exact wq_of (wr_grown hB hown h1 hg) rfl
theorem cts_nul : cts .nul = [110, 117, 108, 108] := by rw [cts]
theorem quo_ge (s : ByteArray) : s.size ≤ (quo s).length := by
 have h2 : ∀ l : List Int, l.length ≤ (l.flatMap escI).length := by
  intro l
  induction l with
  | nil => simp
  | cons c l ih =>
   rw [List.flatMap_cons, List.length_append, List.length_cons]
   have : 1 ≤ (escI c).length := by
    unfold escI
    repeat' split
    all_goals simp
   omega
 have h3 := h2 (byt s)
 rw [byt_len] at h3
 rw [quo_len]
 omega
set_option maxHeartbeats 4000000 in
theorem write_nul : WriteOf .nul := by
 intro w0 w ok v A c acc a3 hB hv hpow hown hl ha
 rw [V] at hv
 subst hv
 rw [cts_nul] at ha hl
 have ha1 := asr_null_truth (.agg #[])
 have ha2 := asr_null_number (.agg #[])
 have ha3 := asr_null_text (.agg #[])
 have ha4 := asr_null_list (.agg #[])
 have ha5 := asr_null_object (.agg #[])
 have HB := Lib.hid hB
 have HO := Lib.hid hown
 have HL := Lib.hid (show acc.length + 4 ≤ 140737488355328 from by simp at hl; omega)
 have HA := Lib.hid ha
 clear hB hown hl ha hpow
 go_enter Tryz.func62, Tryz.ntmps62
 go_wp2_with (first | (at_builtin; refine wp_append_text rfl w0.heap.size (.tmp 90) _ 44 9 5 rfl Tryz.underlying44 Tryz.underlying9 info5 (.slice A acc.length c) acc ⟨#[110, 117, 108, 108]⟩ rfl rfl HO.out HB.out.size HL.out ?_; intro v1 w1 hown1 hg1; rw [show acc ++ byt ⟨#[110, 117, 108, 108]⟩ = a3 from HA.out.symm] at hown1; obtain ⟨A1, c1, rfl⟩ := own_slice hown1; have HW := Lib.hid (wq_grown HB.out HO.out HA.out hown1 hg1); clear hown1 hg1))
 go_wp2_with fail
 go_ret
 exact HW.out
set_option maxHeartbeats 4000000 in
theorem write_bool (b : Bool) (t : T) (ht : t = if b then .tru else .fls) : WriteOf t := by
 intro w0 w ok v A c acc a3 hB hv hpow hown hl ha
 obtain ⟨x, hx⟩ : ∃ x : List Int, x = (if b then [116, 114, 117, 101] else [102, 97, 108, 115, 101]) := ⟨_, rfl⟩
 have hct : cts t = x := by cases b <;> simp at ht hx <;> rw [ht, hx] <;> rw [cts]
 have hvv : v = .iface 157 (.bool b) := by cases b <;> simp at ht <;> subst ht <;> rw [V] at hv <;> exact hv
 have h1 := appendBool w0 w hB _ acc b hown (by omega)
 rw [← hx] at h1
 subst hvv
 rw [hct] at ha
 have ha1 := asr_truth_truth (.bool b)
 have HC := Lib.hid (h1.mono (fun e w' h => wq_of h ha))
 clear hB hown hl ha hpow hv h1 hx hct ht
 go_enter Tryz.func62, Tryz.ntmps62
 go_wp2_with fail
 refine HC.out.mono ?_
 rintro e w1 ⟨A1, n1, rfl, h⟩
 have H := Lib.hid h
 clear h HC
 go_wp2_with fail
 go_ret
 exact ⟨A1, n1, rfl, H.out⟩
set_option maxHeartbeats 4000000 in
theorem write_num (x : ByteArray) : WriteOf (.num x) := by
 intro w0 w ok v A c acc a3 hB hv hpow hown hl ha
 rw [V] at hv
 obtain ⟨n, rfl, rfl, h0, h1⟩ := hv
 have hct : cts (.num (numT n)) = byt (numT n) := by rw [cts]
 rw [hct] at ha
 have ha1 := asr_number_truth (.int .i64 n)
 have ha2 := asr_number_number (.int .i64 n)
 have HC := Lib.hid ((appendInt w0 w hB _ acc n h0 h1 hown (by omega) (hpow.on hB)).mono (fun e w' h => wq_of h ha))
 clear hB hown hl ha hpow h0 h1 hct
 go_enter Tryz.func62, Tryz.ntmps62
 go_wp2_with fail
 refine HC.out.mono ?_
 rintro e w1 ⟨A1, n1, rfl, h⟩
 have H := Lib.hid h
 clear h HC
 go_wp2_with fail
 go_ret
 exact ⟨A1, n1, rfl, H.out⟩
set_option maxHeartbeats 4000000 in
theorem write_str (b : ByteArray) (hb : b.size ≤ 10000000) : WriteOf (.str b) := by
 intro w0 w ok v A c acc a3 hB hv hpow hown hl ha
 rw [V] at hv
 subst hv
 have hct : cts (.str b) = quo b := by rw [cts]
 rw [hct] at ha
 have ha1 := asr_text_truth (.string b)
 have ha2 := asr_text_number (.string b)
 have ha3 := asr_text_text (.string b)
 have HC := Lib.hid ((quotedW w0 w hB _ acc b hown (by omega) hb).mono (fun e w' h => wq_of h ha))
 clear hB hown hl ha hpow hct hb
 go_enter Tryz.func62, Tryz.ntmps62
 go_wp2_with fail
 refine HC.out.mono ?_
 rintro e w1 ⟨A1, n1, rfl, h⟩
 have H := Lib.hid h
 clear h HC
 go_wp2_with fail
 go_ret
 exact ⟨A1, n1, rfl, H.out⟩
def jn (cs : List (List Int)) : List Int := cs.flatMap fun c => 44 :: c
theorem jn_ctsL : ∀ l : List T, ctsL l = jn (l.map cts)
 | [] => by rw [ctsL]; rfl
 | t :: l => by rw [ctsL, jn_ctsL l]; rfl
theorem jn_ctsM : ∀ l : List (ByteArray × T), ctsM l = jn (l.map fun p => quo p.1 ++ 58 :: cts p.2)
 | [] => by rw [ctsM]; rfl
 | (k, t) :: l => by
  rw [ctsM, jn_ctsM l]
  simp [jn]
theorem jn_snoc (cs : List (List Int)) (c : List Int) : jn (cs ++ [c]) = jn cs ++ 44 :: c := by unfold jn; simp
theorem jn_take (cs : List (List Int)) (k : Nat) : (jn (cs.take k)).length ≤ (jn cs).length := by
 conv => rhs; rw [← List.take_append_drop k cs]
 unfold jn
 rw [List.flatMap_append, List.length_append]
 omega
theorem jn_next (cs : List (List Int)) (k : Nat) (hk : k < cs.length) : jn (cs.take (k + 1)) = jn (cs.take k) ++ 44 :: cs[k] := by
 rw [List.take_succ_eq_append_getElem hk, jn_snoc]
theorem jn_first (cs : List (List Int)) (hk : 0 < cs.length) : (jn (cs.take 1)).drop 1 = cs[0] := by
 rw [jn_next cs 0 hk]
 rfl
theorem jn_more (cs : List (List Int)) (k : Nat) (h0 : 0 < k) (hk : k < cs.length) : (jn (cs.take (k + 1))).drop 1 = (jn (cs.take k)).drop 1 ++ 44 :: cs[k] := by
 rw [jn_next cs k hk]
 match cs, k with
 | [], k => simp at hk
 | c :: r, 0 => omega
 | c :: r, k + 1 =>
  rw [List.take_succ_cons]
  unfold jn
  rw [List.flatMap_cons]
  rfl
theorem jn_len (cs : List (List Int)) (k : Nat) (hk : k < cs.length) : (jn (cs.take k)).length + cs[k].length + 1 ≤ (jn cs).length := by
 have h1 := jn_take cs (k + 1)
 rw [jn_next cs k hk, List.length_append, List.length_cons] at h1
 omega
theorem jn_ge : ∀ cs : List (List Int), cs.length ≤ (jn cs).length
 | [] => by simp
 | c :: r => by
  have := jn_ge r
  unfold jn at this ⊢
  rw [List.flatMap_cons, List.length_append, List.length_cons, List.length_cons]
  omega
theorem wq_trans {w0 w w1 : World} {a3 : List Int} {e : Ending} {w' : World} (h : Lib.OthersKept 5 none w w1) (k : Wq w0 w1 a3 e w') : Wq w0 w a3 e w' := by
 obtain ⟨A, n, h1, h2, h3, h4⟩ := k
 exact ⟨A, n, h1, h2, h3, h.trans h4⟩
theorem child {t : T} (hW : WriteOf t) {w0 w : World} {ok : Nat → Prop} {v : Value} {A : Option Addr} {c : Nat} {acc a3 : List Int} (hB : Below w0.heap.size w0 w) (hv : V w0 ok t v) (hp : POW w0 w0) (hown : w.ownsRow w0.heap.size 5 1 (.slice A acc.length c) acc.length (nums .u8 acc)) (hl : acc.length + (cts t).length ≤ 100000000) (ha : a3 = acc ++ cts t) :
  Calls Tryz.prog 62 #[.slice A acc.length c, v] w fun e w' => Wq w0 w a3 e w' := hW w0 w ok v A c acc a3 hB hv hp hown hl ha
set_option maxRecDepth 100000 in
set_option maxHeartbeats 8000000 in
theorem write_arr (l : List T) (hk : ∀ p ∈ l, WriteOf p) : WriteOf (.arr l) := by
 intro w0 w ok v A c acc a3 hB hv hpow hown hl ha
 rw [V] at hv
 obtain ⟨u, cs, rfl, hrow, hok, hvl⟩ := hv
 obtain ⟨Au, cu, rfl⟩ := own_slice hrow
 have hct : cts (.arr l) = 91 :: ((jn (l.map cts)).drop 1 ++ [93]) := by rw [cts, jn_ctsL]
 rw [hct] at ha hl
 have hll : acc.length + (jn (l.map cts)).length + 1 ≤ 100000000 := by
  rw [List.length_cons, List.length_append, List.length_drop] at hl
  simp at hl
  omega
 have ha1 := asr_list_truth (.slice Au l.length cu)
 have ha2 := asr_list_number (.slice Au l.length cu)
 have ha3 := asr_list_text (.slice Au l.length cu)
 have ha4 := asr_list_list (.slice Au l.length cu)
 have HLL := Lib.hid (show ∀ k, (h : k < l.length) → acc.length + (jn ((l.map cts).take k)).length + (cts l[k]).length + 2 ≤ 100000000 ∧ k ≤ (jn ((l.map cts).take k)).length from fun k hk => by
  have h1 := jn_len (l.map cts) k (by simpa using hk)
  have h2 := jn_ge ((l.map cts).take k)
  rw [List.length_take, List.length_map] at h2
  simp only [List.getElem_map] at h1
  exact ⟨by omega, by omega⟩)
 have HNX := Lib.hid (show ∀ k, (h : k < l.length) → ((jn ((l.map cts).take (k + 1))).drop 1 = if k = 0 then cts l[k] else (jn ((l.map cts).take k)).drop 1 ++ 44 :: cts l[k]) from fun k hk => by
  by_cases h0 : k = 0
  ·subst h0
   rw [if_pos rfl, jn_first (l.map cts) (by simpa using hk), List.getElem_map]
  ·rw [if_neg h0, jn_more (l.map cts) k (by omega) (by simpa using hk), List.getElem_map])
 have HB := Lib.hid hB
 have HO := Lib.hid hown
 have HA := Lib.hid ha
 have HROW := Lib.hid hrow
 have HVL := Lib.hid hvl
 have HLC := Lib.hid hl
 have HP := Lib.hid hpow
 have HK := Lib.hid hk
 obtain ⟨a1, hae⟩ : ∃ a1, a1 = acc ++ [91] := ⟨_, rfl⟩
 have HAE := Lib.hid hae
 have HL1 := Lib.hid (show acc.length + 1 ≤ 140737488355328 from by omega)
 clear hB hown hl ha hpow hk hrow hok hvl hct hll hae
 go_enter Tryz.func62, Tryz.ntmps62
 go_wp2_with (first | (at_builtin; refine wp_append_byte rfl w0.heap.size (.tmp 36) (.tmp 37) 44 5 rfl Tryz.underlying44 info5 (.slice A acc.length c) acc 91 rfl rfl HO.out HB.out.size HL1.out ?_; intro v1 w1 hown1 hg1; rw [← HAE.out] at hown1; obtain ⟨A1, c1, rfl⟩ := own_slice hown1; have HO1 := Lib.hid hown1; have HB1 := Lib.hid (Below.grown HB.out hg1 HB.out.size (fun k hk => own_base HO.out k hk)); have HT1 := Lib.hid (grown_others HO.out hg1); clear hown1 hg1))
 go_loopw [0, 41] (fun v0 v41 wr => ∃ (k : Nat) (b : List Int), v41 = .int .i64 (k : Int) ∧ Hid (k ≤ l.length) ∧ Hid (b = acc ++ 91 :: (jn ((l.map cts).take k)).drop 1) ∧ Hid (wr.ownsRow w0.heap.size 5 1 v0 b.length (nums .u8 b)) ∧ Hid (Below w0.heap.size w0 wr) ∧ Hid (Lib.OthersKept 5 none w wr)) (fun _ v41 _ => l.length - (intOf v41).toNat)
 case atStart => exact ⟨0, a1, by simp, Lib.hid (Nat.zero_le _), Lib.hid (by rw [HAE.out]; rfl), HO1, HB1, HT1⟩
 case round =>
  clear HO1 HB1 HT1
  obtain ⟨k, b, rfl, HKL, HBE, HO1, HB1, HT1⟩ := hrel
  obtain ⟨A1, c1, rfl⟩ := own_slice HO1.out
  by_cases hkn : k < l.length
  ·have d1 : decide ((k : Int) < (l.length : Int)) = true := decide_eq_true (by omega)
   have d1n : decide (k < l.length) = true := decide_eq_true hkn
   have p4 : ((0 : Int) ≤ (k : Int)) = True := eq_true (by omega)
   have q4 : ((k : Int) < (l.length : Int)) = True := eq_true (by omega)
   have HKN := Lib.hid hkn
   obtain ⟨gg, cap, e0, hbg, hcell⟩ := own_cell HROW.out (by omega)
   cases e0
   obtain ⟨ck, hck, hvk⟩ := VL_get HVL.out k l[k] (List.getElem?_eq_getElem hkn)
   obtain ⟨T', x', rfl⟩ := V_iface hvk
   have hc0 := hcell k _ hck
   have hx0 := (HB1.out.cell (World.block_lt_of_cell? w0 _ hc0)).trans hc0
   obtain ⟨hlk, hjk⟩ := HLL.out k hkn
   have hnx := HNX.out k hkn
   have hbl : b.length = acc.length + 1 + ((jn ((l.map cts).take k)).length - 1) := by
    rw [HBE.out, List.length_append, List.length_cons, List.length_drop]
    omega
   have hw2 : IntKind.i64.wrap ((k : Int) + 1) = (k : Int) + 1 := by rw [IntKind.wrap_i64]; omega
   by_cases hk0 : k = 0
   ·rw [if_pos hk0] at hnx
    have d2 : decide ((0 : Int) < (k : Int)) = false := decide_eq_false (by omega)
    have d2n : decide (0 < k) = false := decide_eq_false (by omega)
    obtain ⟨b3, hb3⟩ : ∃ b3, b3 = b ++ cts l[k] := ⟨_, rfl⟩
    have hzero : (jn ((l.map cts).take k)) = [] := by rw [hk0]; rfl
    have HCK := Lib.hid (child (HK.out l[k] (List.getElem_mem hkn)) HB1.out hvk HP.out HO1.out (by rw [hbl, hzero]; simp; omega) hb3)
    have HB3 := Lib.hid (show b3 = acc ++ 91 :: (jn ((l.map cts).take (k + 1))).drop 1 by rw [hb3, HBE.out, hnx, hzero]; simp; rfl)
    clear hb3 hnx hlk hjk hbl hc0 hcell hck hvk hbg hk0 hzero hkn
    go_wp2_with fail
    refine HCK.out.mono ?_
    rintro e w3 ⟨A3, n3, rfl, ho3, hb3, ht3⟩
    have HO3 := Lib.hid ho3
    have HBL3 := Lib.hid hb3
    have HT3 := Lib.hid (HT1.out.trans ht3)
    clear ho3 hb3 ht3 hx0
    go_wp2_with fail
    go_roundw
    case rel => exact ⟨k + 1, b3, by simp, Lib.hid (by have := HKN.out; omega), HB3, HO3, HBL3, HT3⟩
    case measure =>
     have h5 := HKN.out
     simp [intOf]
     omega
   ·rw [if_neg hk0] at hnx
    have d2 : decide ((0 : Int) < (k : Int)) = true := decide_eq_true (by omega)
    have d2n : decide (0 < k) = true := decide_eq_true (by omega)
    obtain ⟨b2, hb2⟩ : ∃ b2, b2 = b ++ [44] := ⟨_, rfl⟩
    obtain ⟨b3, hb3⟩ : ∃ b3, b3 = b2 ++ cts l[k] := ⟨_, rfl⟩
    have HB2 := Lib.hid hb2
    have hbl2 : b2.length + (cts l[k]).length ≤ 100000000 := by rw [hb2, List.length_append, hbl]; simp; omega
    have HCK := Lib.hid (fun (W : World) (A2 : Option Addr) (c2 : Nat) (hB : Below w0.heap.size w0 W) (ho : W.ownsRow w0.heap.size 5 1 (.slice A2 b2.length c2) b2.length (nums .u8 b2)) => child (HK.out l[k] (List.getElem_mem hkn)) hB hvk HP.out ho hbl2 hb3)
    have HB3 := Lib.hid (show b3 = acc ++ 91 :: (jn ((l.map cts).take (k + 1))).drop 1 by rw [hb3, hb2, HBE.out, hnx]; simp; rfl)
    have HL2 := Lib.hid (show b.length + 1 ≤ 140737488355328 by omega)
    clear hb3 hb2 hbl2 hnx hlk hjk hbl hc0 hcell hck hvk hbg hk0 hkn
    go_wp2_with (first | (at_builtin; refine wp_append_byte rfl w0.heap.size (.tmp 48) (.tmp 49) 44 5 rfl Tryz.underlying44 info5 (.slice A1 b.length c1) b 44 rfl rfl HO1.out HB1.out.size HL2.out ?_; intro v2 w2 hown2 hg2; rw [← HB2.out] at hown2; obtain ⟨A2, c2, rfl⟩ := own_slice hown2; have HO2 := Lib.hid hown2; have HBL2 := Lib.hid (Below.grown HB1.out hg2 HB1.out.size (fun k hk => own_base HO1.out k hk)); have HT2 := Lib.hid (HT1.out.trans (grown_others HO1.out hg2)); clear hown2 hg2))
    refine (HCK.out _ _ _ HBL2.out HO2.out).mono ?_
    rintro e w3 ⟨A3, n3, rfl, ho3, hb3, ht3⟩
    have HO3 := Lib.hid ho3
    have HBL3 := Lib.hid hb3
    have HT3 := Lib.hid (HT2.out.trans ht3)
    clear ho3 hb3 ht3 hx0
    go_wp2_with fail
    go_roundw
    case rel => exact ⟨k + 1, b3, by simp, Lib.hid (by have := HKN.out; omega), HB3, HO3, HBL3, HT3⟩
    case measure =>
     have h5 := HKN.out
     simp [intOf]
     omega
  ·have d1 : decide ((k : Int) < (l.length : Int)) = false := decide_eq_false (by omega)
   have d1n : decide (k < l.length) = false := decide_eq_false hkn
   have hke : k = l.length := by have := HKL.out; omega
   have hbe := HBE.out
   rw [show (l.map cts).take k = l.map cts by rw [hke, ← List.length_map (f := cts), List.take_length]] at hbe
   have hfin : a3 = b ++ [93] := by rw [HA.out, hbe]; simp
   have HF := Lib.hid hfin
   have HL2 := Lib.hid (show b.length + 1 ≤ 140737488355328 by
    have h1 := HLC.out
    rw [hbe, List.length_append, List.length_cons]
    rw [List.length_cons, List.length_append] at h1
    omega)
   clear hfin hbe hke hkn
   go_wp2_with (first | (at_builtin; refine wp_append_byte rfl w0.heap.size (.tmp 55) (.tmp 56) 44 5 rfl Tryz.underlying44 info5 (.slice A1 b.length c1) b 93 rfl rfl HO1.out HB1.out.size HL2.out ?_; intro v2 w2 hown2 hg2; rw [← HF.out] at hown2; obtain ⟨A2, c2, rfl⟩ := own_slice hown2; have HW := Lib.hid (wq_trans HT1.out (wq_grown HB1.out HO1.out HF.out hown2 hg2)); clear hown2 hg2))
   go_wp2_with fail
   go_ret
   exact HW.out
end Go.Proofs.YtndagnkhjlgjgaaGreatDoor.Impl
namespace Go.Proofs
open Go.Shelf
def Tryz.laysKeys_ren : Go.Shelf.Ren := ⟨fun | 7 => 114 | 10 => 154 | n => n, fun | 23 => 103 | 26 => 9 | 3 => 55 | 28 => 167 | 0 => 0 | 27 => 166 | 33 => 30 | 4 => 4 | n => n, fun | n => n⟩
theorem Tryz.laysKeys : Go.Proofs.SlLaysZ.n7 Tryz.prog Tryz.laysKeys_ren := {
 mixed := by kernel_rfl
 f7 := ⟨Tryz.f114.name, by decide, Tryz.func114.trans (congrArg some (by kernel_rfl))⟩
 f10 := ⟨Tryz.f154.name, by decide, Tryz.func154.trans (congrArg some (by kernel_rfl))⟩
 t0 := Tryz.underlying0
 a0 := Tryz.isAgg0
 z0 := Tryz.sizeOf0
 v0 := Tryz.zeroValue0
 t4 := Tryz.underlying4
 a4 := Tryz.isAgg4
 z4 := Tryz.sizeOf4
 v4 := Tryz.zeroValue4
 t23 := Tryz.underlying103
 a23 := Tryz.isAgg103
 z23 := Tryz.sizeOf103
 v23 := Tryz.zeroValue103
 t26 := Tryz.underlying9
 a26 := Tryz.isAgg9
 z26 := Tryz.sizeOf9
 v26 := Tryz.zeroValue9
 t27 := Tryz.underlying166
 a27 := Tryz.isAgg166
 z27 := Tryz.sizeOf166
 v27 := Tryz.zeroValue166
 t28 := Tryz.underlying167
 a28 := Tryz.isAgg167
 z28 := Tryz.sizeOf167
 v28 := Tryz.zeroValue167
 t33 := Tryz.underlying30
 a33 := Tryz.isAgg30
 z33 := Tryz.sizeOf30
 v33 := Tryz.zeroValue30 }
def Tryz.laysSorted_ren : Go.Shelf.Ren := ⟨fun | 6 => 113 | 8 => 152 | 9 => 153 | 11 => 182 | 13 => 184 | 12 => 183 | 23 => 213 | 24 => 214 | 14 => 204 | 15 => 205 | 16 => 206 | 17 => 207 | 18 => 208 | 19 => 209 | 20 => 210 | 21 => 211 | 22 => 212 | 25 => 225 | 26 => 226 | 27 => 227 | 28 => 228 | 29 => 229 | 30 => 230 | 31 => 233 | n => n, fun | 26 => 9 | 28 => 167 | 24 => 25 | 0 => 0 | 3 => 3 | 37 => 193 | 48 => 239 | 50 => 207 | 4 => 4 | 40 => 233 | 39 => 232 | 45 => 106 | 5 => 5 | 9 => 9 | 51 => 251 | 55 => 255 | 57 => 257 | 58 => 85 | 33 => 30 | n => n, fun | n => n⟩
theorem Tryz.laysSorted : Go.Proofs.SlLaysZ.n6 Tryz.prog Tryz.laysSorted_ren := {
 mixed := by kernel_rfl
 f6 := ⟨Tryz.f113.name, by decide, Tryz.func113.trans (congrArg some (by kernel_rfl))⟩
 f8 := ⟨Tryz.f152.name, by decide, Tryz.func152.trans (congrArg some (by kernel_rfl))⟩
 f11 := ⟨Tryz.f182.name, by decide, Tryz.func182.trans (congrArg some (by kernel_rfl))⟩
 t0 := Tryz.underlying0
 a0 := Tryz.isAgg0
 z0 := Tryz.sizeOf0
 v0 := Tryz.zeroValue0
 t24 := Tryz.underlying25
 a24 := Tryz.isAgg25
 z24 := Tryz.sizeOf25
 v24 := Tryz.zeroValue25
 t26 := Tryz.underlying9
 a26 := Tryz.isAgg9
 z26 := Tryz.sizeOf9
 v26 := Tryz.zeroValue9
 t28 := Tryz.underlying167
 a28 := Tryz.isAgg167
 z28 := Tryz.sizeOf167
 v28 := Tryz.zeroValue167
 i26 := by kernel_rfl }
end Go.Proofs
namespace Go.Proofs.YtndagnkhjlgjgaaGreatDoor.Keys
open Go Go.Proofs Go.RowKit Go.Maps Go.Sort Go.Shelf YtndagnkhjlgjgaaGreatDoorW.PrintWords Val Tree
set_option linter.unusedVariables false
set_option linter.unusedSimpArgs false
theorem sorts (m : Nat) : AnyZ.SortsIn Tryz.prog Tryz.laysSorted_ren Fence.wide m :=
  ⟨fun blk off cap ss W hH hblk hsz => callsIn_wide.2 (Tryz.slices_Sort_string blk off cap ss W hH hblk hsz),
   fun p cap W => callsIn_wide.2 (Tryz.slices_Sort_string_none p cap W)⟩
theorem maps_Keys (mb : Option Nat) (W : World) : CallsIn Fence.wide 5 Tryz.prog 114 #[.map mb] W fun e w' => e = .returned (.func (.func 154) #[] #[.pointer (some ⟨W.heap.size, 0, none⟩)]) ∧ w' = W.alloc (.cells #[.map mb] 103) :=
  AnyZ.keys_in Tryz.laysKeys Fence.wide 5 trivial rfl mb W
set_option maxHeartbeats 1000000 in
theorem sorted_keys {H : Type} (b nn : Nat) (D0 : DataW H) (R : Value → Option (DataW H × List MemPlace)) (w : World) (hown : w.ownsMap Tryz.prog 9 R b nn D0) (hmax : Maps.size D0 ≤ maxLen) (hbytes : Maps.size D0 * 16 ≤ 140737488355328) :
    CallsIn Fence.wide 5 Tryz.prog 113 #[.func (.func 154) #[] #[.pointer (some ⟨w.heap.size, 0, none⟩)]] (w.alloc (.cells #[.map (some b)] 103)) fun e w' => ∃ (v : Value) (ss : List (List UInt8)), e = .returned v ∧ ss.Perm (strKeys D0) ∧
      w'.ownsRow (w.alloc (.cells #[.map (some b)] 103)).heap.size 9 1 v ss.length ((ss.mergeSort (fun x y => decide (x ≤ y))).map encStr) ∧ (v = .slice none 0 0 ↔ ss = []) ∧ Below (w.alloc (.cells #[.map (some b)] 103)).heap.size (w.alloc (.cells #[.map (some b)] 103)) w' := by
  have hbl := hown.lt
  have hseq : SeqGives Fence.wide 2 Tryz.prog 154 #[.pointer (some ⟨w.heap.size, 0, none⟩)] encStr (fun ss => ss.Perm (strKeys D0)) (Maps.size D0) (w.alloc (.cells #[.map (some b)] 103)) :=
    AnyZ.keys_gives (ρ := Tryz.laysKeys_ren) { Tryz.laysKeys with } Fence.wide _ trivial rfl (by omega) w.heap.size b nn D0 _ (by simp) (by simp) (by
      obtain ⟨es, clock, hb, Ft, hs, hD⟩ := hown
      exact ⟨es, clock, (Below.heap_alloc _ _ b hbl).trans hb, Ft, hs, hD⟩)
  exact AnyZ.sorted_in Tryz.laysSorted Fence.wide 5 trivial trivial trivial trivial rfl (by omega) (sorts _) (enters_of Tryz.func153 (by kernel_rfl) rfl) 154 #[.pointer (some ⟨w.heap.size, 0, none⟩)] trivial (enters_of Tryz.func154 (by kernel_rfl) rfl) _ _ hmax hbytes _ hseq
theorem keys (w : World) (g n : Nat) (ds : List (ByteArray × Value)) (hown : w.ownsMap Tryz.prog 9 Rd g n (encM ds)) (hs : ds.Pairwise (fun a b => keyB a b = true)) (hl : ds.length ≤ 1000000) :
    Calls Tryz.prog 74 #[.map (some g)] w fun e w' => ∃ v, e = .returned v ∧ w'.ownsRow w.heap.size 9 1 v ds.length (ds.map fun p => .string p.1) ∧ Below w.heap.size w w' := by
  have hmax : Maps.size (encM ds) ≤ maxLen := by rw [size_enc]; simp only [maxLen]; omega
  have hbytes : Maps.size (encM ds) * 16 ≤ 140737488355328 := by rw [size_enc]; omega
  have c1 := callsIn_wide.1 (maps_Keys (some g) w)
  have c2 := callsIn_wide.1 (sorted_keys g n (encM ds) Rd w hown hmax hbytes)
  go_enter Tryz.func74, Tryz.ntmps74
  go_wp2_with fail
  refine c1.mono ?_
  rintro e w1 ⟨rfl, rfl⟩
  go_wp2_with fail
  refine c2.mono ?_
  rintro e w2 ⟨v, ss, rfl, hp, hrow, hnil, hb⟩
  rw [keys_enc] at hp
  have hlen : ss.length = ds.length := by rw [hp.length_eq, List.length_map]
  have hso := sort_of (ds.map fun p => p.1.data.toList) (by rw [List.pairwise_map]; exact hs) ss hp
  rw [hso, hlen] at hrow
  have e1 : ((ds.map fun p => p.1.data.toList).map encStr) = ds.map fun p => Value.string p.1 := by
    rw [List.map_map]
    refine List.map_congr_left fun p _ => ?_
    simp [encStr]
  rw [e1] at hrow
  go_wp2_with fail
  go_ret
  refine ⟨v, rfl, ownsRow_base_a hrow (by simp), ?_⟩
  exact (below_alloc (Below.refl _ w) _).trans (hb.mono (by simp))
end Go.Proofs.YtndagnkhjlgjgaaGreatDoor.Keys
