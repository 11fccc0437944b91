/- impl.callOf: its contract by hand (a map of constants, strings.Cut, strings.Trim, strconv.Atoi). -/
import Derived.Test.YtfadnchkododdaaDoorTch
import Derived.Test.YtfadnchkododdaaDoorProg
import Derived.Test.YtfadnchkododdaaDoorShelf
import Derived.Deep.QuietTactic
import Derived.BigQuiet
import Derived.Deep.RegionHeld3
import Derived.RegionTactic
import Derived.Outline
import Derived.WalkLawsBesides
import Derived.Lib.Strings
import Derived.Lib.IndexMore
import Derived.Lib.Atoi
import Derived.Maps.OwnOps
import Derived.Maps.Views
import Derived.Shelf.Strings.SlTrimAscii
namespace Go.Proofs.YtfadnchkododdaaDoor.Ps
open Go Go.RowKit Go.Maps Go.Proofs.YtfadnchkododdaaDoorW.PrintWords Go.Proofs.YtfadnchkododdaaDoor.Tchs
set_option linter.unusedVariables false
set_option linter.unusedSimpArgs false

/-- The library's variable bytealg.MaxLen holds some number. -/
def GM (w : World) : Prop := ∃ m, w.cell? ⟨2, 0, none⟩ = some (.int .i64 m)
theorem GM.of {w w1 : World} (h : GM w) (hb : Below w.heap.size w w1) : GM w1 := by
  obtain ⟨m, hm⟩ := h
  exact ⟨m, pw_cell_below hb hm⟩
/-- m[k] = v in a map's literal. -/
theorem wpList_insert_own {H : Type} {P : Program} (w : World) {ops : Array Oper} {rest : List Oper} {o : Oper} {a : Act} {Q : Exit → Act → World → Prop}
    (hg : o.guard = none) (m x v : Operand) (t : TypeId) (hop : o.op = Op.insert t m x v)
    (k e : TypeId) (K : Keyed P k) (ht : P.underlying t = some (.map k e)) (R : Value → Option (DataW H × List MemPlace)) (b n : Nat) (D : DataW H)
    (hm : a.eval m = .map (some b)) (hown : w.ownsMap P k R b n D) (hn : n < maxLen) (key val : Value) (kl : Lit) (hx : a.eval x = key) (hv : a.eval v = val) (hkey : keyOf P k key = some kl)
    (d : DataW H) (ps : List MemPlace) (hval : R val = some (d, ps))
    (hK : ∀ w', w'.ownsMap P k R b (n + 1) (D.put kl d) → w.grownBy w' (some b) → wpList P ops Q rest (a.put o.dst undef) w') :
    wpList P ops Q (o :: rest) a w := by
  refine wpList_plain hg fun K' hK' => ?_
  obtain ⟨w', hrun, r1, r2⟩ := hown.update K ht hn hkey hval
  unfold Oper.wp
  simp [execOp, hop, hm, hx, hv, hrun, Result.andThen]
  exact hK' _ _ (hK w' r1 r2)
/-- The kind of a call's word. -/
def kindL (l : List UInt8) : Int :=
  if l = [99, 97, 110, 99, 101, 108] then 6 else if l = [116, 97, 107, 101] then 5 else if l = [119, 97, 116, 99, 104] then 4 else if l = [113, 117, 101, 114, 121] then 3 else if l = [103, 101, 116] then 2 else if l = [112, 97, 116, 99, 104] then 1 else 0
abbrev D0 : DataW Unit := .map []
abbrev D6 : DataW Unit := (((((D0.put (.string [112, 97, 116, 99, 104]) (.lit (.int .i64 1))).put (.string [103, 101, 116]) (.lit (.int .i64 2))).put (.string [113, 117, 101, 114, 121]) (.lit (.int .i64 3))).put (.string [119, 97, 116, 99, 104]) (.lit (.int .i64 4))).put (.string [116, 97, 107, 101]) (.lit (.int .i64 5))).put (.string [99, 97, 110, 99, 101, 108]) (.lit (.int .i64 6))
theorem kind_at (l : List UInt8) (z : DataW Unit) (hz : z = .lit (.int .i64 0)) : D6.atKey (.string l) z = .lit (.int .i64 (kindL l)) := by
  subst hz
  have hne : ∀ a b : List UInt8, a ≠ b → (Lit.string a) ≠ .string b := fun a b h he => h (by injection he)
  unfold kindL D6
  by_cases h6 : l = [99, 97, 110, 99, 101, 108]
  · subst h6; rfl
  rw [if_neg h6, atKey_put_other (hne _ _ h6)]
  by_cases h5 : l = [116, 97, 107, 101]
  · subst h5; rfl
  rw [if_neg h5, atKey_put_other (hne _ _ h5)]
  by_cases h4 : l = [119, 97, 116, 99, 104]
  · subst h4; rfl
  rw [if_neg h4, atKey_put_other (hne _ _ h4)]
  by_cases h3 : l = [113, 117, 101, 114, 121]
  · subst h3; rfl
  rw [if_neg h3, atKey_put_other (hne _ _ h3)]
  by_cases h2 : l = [103, 101, 116]
  · subst h2; rfl
  rw [if_neg h2, atKey_put_other (hne _ _ h2)]
  by_cases h1 : l = [112, 97, 116, 99, 104]
  · subst h1; rfl
  rw [if_neg h1, atKey_put_other (hne _ _ h1)]
  rfl
/-- All bytes are digits. -/
def digsL (l : List UInt8) : Bool := l.all fun b => decide (48 ≤ b.toNat ∧ b.toNat ≤ 57)
/-- What a call's rest reads as: the kind, the text, the room, whether it is right. -/
def callF (l : List UInt8) : Int × List UInt8 × Int × Bool :=
  let k := kindL (Lib.cut l [32]).1
  if k = 0 then (0, [], 0, false)
  else if k = 5 ∨ k = 6 then (k, [], 0, !(Lib.cut l [32]).2.2)
  else if k = 4 then
    if (Lib.cut (Lib.cut l [32]).2.1 [32]).2.2 = true ∧ 1 ≤ (Lib.cut (Lib.cut l [32]).2.1 [32]).1.length ∧ (Lib.cut (Lib.cut l [32]).2.1 [32]).1.length ≤ 3 ∧ digsL (Lib.cut (Lib.cut l [32]).2.1 [32]).1 = true then
      (4, (Lib.cut (Lib.cut l [32]).2.1 [32]).2.1, (Lib.atoi (Lib.cut (Lib.cut l [32]).2.1 [32]).1).getD 0, true)
    else (4, [], 0, false)
  else (k, (Lib.cut l [32]).2.1, 0, (Lib.cut l [32]).2.2)
abbrev ba (l : List UInt8) : ByteArray := ⟨l.toArray⟩

theorem dig_tab : ∀ n : Fin 256, ([48, 49, 50, 51, 52, 53, 54, 55, 56, 57] : List UInt8).contains (UInt8.ofNat n.1) = decide (48 ≤ n.1 ∧ n.1 ≤ 57) := by decide +kernel
theorem dig_mem (b : UInt8) : ([48, 49, 50, 51, 52, 53, 54, 55, 56, 57] : List UInt8).contains b = decide (48 ≤ b.toNat ∧ b.toNat ≤ 57) := by
  have h := dig_tab ⟨b.toNat, b.toNat_lt⟩
  simpa using h
theorem dropWhile_nil {α : Type} (p : α → Bool) : ∀ l : List α, l.dropWhile p = [] ↔ l.all p = true
  | [] => by simp
  | a :: l => by
    by_cases h : p a = true
    · simp [List.dropWhile, h, dropWhile_nil p l]
    · simp [List.dropWhile, h]
theorem dropWhile_all {α : Type} (p : α → Bool) : ∀ l : List α, (l.dropWhile p).all p = true → l.dropWhile p = []
  | [], _ => rfl
  | a :: l, h => by
    by_cases ha : p a = true
    · rw [List.dropWhile_cons_of_pos ha] at h ⊢
      exact dropWhile_all p l h
    · rw [List.dropWhile_cons_of_neg ha] at h
      simp [ha] at h
theorem trim_digs (l : List UInt8) : Lib.trimS l [48, 49, 50, 51, 52, 53, 54, 55, 56, 57] = [] ↔ digsL l = true := by
  have hp : (fun b : UInt8 => ([48, 49, 50, 51, 52, 53, 54, 55, 56, 57] : List UInt8).contains b) = fun b => decide (48 ≤ b.toNat ∧ b.toNat ≤ 57) := funext dig_mem
  unfold Lib.trimS Lib.trimLeftS Lib.trimRightS digsL
  rw [hp, dropWhile_nil, List.all_reverse]
  constructor
  · intro h
    have h2 := (dropWhile_nil _ _).1 (dropWhile_all _ _ h)
    rwa [List.all_reverse] at h2
  · intro h
    have h2 : (l.reverse.dropWhile fun b : UInt8 => decide (48 ≤ b.toNat ∧ b.toNat ≤ 57)) = [] := (dropWhile_nil _ _).2 (by rw [List.all_reverse]; exact h)
    rw [h2]
    rfl
theorem dec_digs : ∀ (l : List UInt8) (acc : Nat), digsL l = true → ∃ n, Lib.decFrom acc l = some n
  | [], acc, _ => ⟨acc, rfl⟩
  | b :: r, acc, h => by
    unfold digsL at h
    simp only [List.all_cons, Bool.and_eq_true, decide_eq_true_eq] at h
    obtain ⟨n, hn⟩ := dec_digs r (acc * 10 + (b.toNat - 48)) (by unfold digsL; exact h.2)
    refine ⟨n, ?_⟩
    simp only [Lib.decFrom, Lib.digitVal, if_pos h.1]
    exact hn
theorem atoi_digs (l : List UInt8) (h1 : 1 ≤ l.length) (h : digsL l = true) : ∃ n : Int, Lib.atoi l = some n := by
  cases l with
  | nil => simp at h1
  | cons b r =>
    obtain ⟨n, hn⟩ := dec_digs (b :: r) 0 h
    have hb : 48 ≤ b.toNat := by
      unfold digsL at h
      simp only [List.all_cons, Bool.and_eq_true, decide_eq_true_eq] at h
      exact h.1.1
    have e1 : (b == 45) = false := by
      rw [beq_eq_false_iff_ne]; intro he; rw [he] at hb; revert hb; decide
    have e2 : (b == 43) = false := by
      rw [beq_eq_false_iff_ne]; intro he; rw [he] at hb; revert hb; decide
    refine ⟨(n : Int), ?_⟩
    simp only [Lib.atoi, e1, e2, Lib.decNat]
    rw [hn]
    rfl
theorem callF_at (l : List UInt8) : callF l = if kindL (Lib.cut l [32]).1 = 0 then (0, [], 0, false)
  else if kindL (Lib.cut l [32]).1 = 5 ∨ kindL (Lib.cut l [32]).1 = 6 then (kindL (Lib.cut l [32]).1, [], 0, !(Lib.cut l [32]).2.2)
  else if kindL (Lib.cut l [32]).1 = 4 then
    if (Lib.cut (Lib.cut l [32]).2.1 [32]).2.2 = true ∧ 1 ≤ (Lib.cut (Lib.cut l [32]).2.1 [32]).1.length ∧ (Lib.cut (Lib.cut l [32]).2.1 [32]).1.length ≤ 3 ∧ digsL (Lib.cut (Lib.cut l [32]).2.1 [32]).1 = true then
      (4, (Lib.cut (Lib.cut l [32]).2.1 [32]).2.1, (Lib.atoi (Lib.cut (Lib.cut l [32]).2.1 [32]).1).getD 0, true)
    else (4, [], 0, false)
  else (kindL (Lib.cut l [32]).1, (Lib.cut l [32]).2.1, 0, (Lib.cut l [32]).2.2) := rfl
theorem cut_le (l : List UInt8) : (Lib.cut l [32]).1.length ≤ l.length ∧ (Lib.cut l [32]).2.1.length ≤ l.length := by
  unfold Lib.cut
  split
  · exact ⟨by simp <;> omega, by simp <;> omega⟩
  · simp

set_option maxRecDepth 100000 in
set_option maxHeartbeats 8000000 in
theorem callOf (c : Int) (s : ByteArray) (w : World) (hs : s.size ≤ 1048576) (hG : GM w) :
    Calls Tryd.prog 40 #[.int .i64 c, .string s] w fun e w' => e = .returned (.tuple #[.agg #[.int .i64 c, .int .i64 (callF s.data.toList).1, .string (ba (callF s.data.toList).2.1), .int .i64 (callF s.data.toList).2.2.1], .bool (callF s.data.toList).2.2.2]) ∧ Below w.heap.size w w' := by
  have HG := Lib.hid hG
  obtain ⟨m, hm⟩ := hG
  have hmm := @run_makeMap Tryd.prog
  go_enter Tryd.func40, Tryd.ntmps40
  go_wp2_with fail
  refine (Tryd.strings_Cut s ⟨#[32]⟩ m _ (by omega) (by simpa using pw_cell_below (below_alloc (Below.refl _ _) _) hm)).mono ?_
  rintro e w1 ⟨rfl, n1, rfl⟩
  have hC : Lib.cut s.data.toList (⟨#[32]⟩ : ByteArray).data.toList = Lib.cut s.data.toList [32] := rfl
  rw [hC]
  have HF := Lib.hid (show callF s.data.toList = callF s.data.toList from rfl)
  unfold callF at HF
  have HCF := Lib.hid (callF_at s.data.toList)
  have hcl := cut_le s.data.toList
  generalize (Lib.cut s.data.toList [32]).1 = wd at HCF hcl ⊢
  generalize (Lib.cut s.data.toList [32]).2.1 = tl at HCF hcl ⊢
  generalize (Lib.cut s.data.toList [32]).2.2 = has at HCF ⊢
  clear HF hC
  have HR := Lib.hid (blk_alloc (blk_drewN (heap_alloc_new w (.cells #[.int .i64 0, .int .i64 0, .string ⟨#[]⟩, .int .i64 0] 46)) n1) (.map #[] 0))
  have HB := Lib.hid (show Below w.heap.size w (((w.alloc (.cells #[.int .i64 0, .int .i64 0, .string ⟨#[]⟩, .int .i64 0] 46)).drewN n1).alloc (.map #[] 0)) from below_alloc (pw_below_drewN (below_alloc (Below.refl _ _) _) n1) _)
  have hsz : ((w.alloc (.cells #[.int .i64 0, .int .i64 0, .string ⟨#[]⟩, .int .i64 0] 46)).drewN n1).heap.size = w.heap.size + 1 := World.size_alloc _ _
  have hown0 := World.ownsMap_made (H := Unit) ((w.alloc (.cells #[.int .i64 0, .int .i64 0, .string ⟨#[]⟩, .int .i64 0] 46)).drewN n1) Tryd.prog 9 (plainElem Tryd.prog 3)
  rw [hsz] at hown0
  clear hsz
  obtain ⟨u1, hrun1, hown1, hg1⟩ := hown0.update (string_keyed Tryd.underlying9) Tryd.underlying86 (by decide) (Go.WideMaps.keyOf_string_mk Tryd.underlying9 (s := ⟨#[112, 97, 116, 99, 104]⟩) (by decide)) (plainElem_int Tryd.underlying3 (a := 1) (by decide))
  have HB1 := Lib.hid (Below.grown HB.out hg1 HB.out.size (fun k hk => by injection hk with hk; omega))
  have HR1 := Lib.hid (blk_grown HR.out hg1 (fun h => by injection h with h; omega))
  obtain ⟨u2, hrun2, hown2, hg2⟩ := hown1.update (string_keyed Tryd.underlying9) Tryd.underlying86 (by decide) (Go.WideMaps.keyOf_string_mk Tryd.underlying9 (s := ⟨#[103, 101, 116]⟩) (by decide)) (plainElem_int Tryd.underlying3 (a := 2) (by decide))
  have HB2 := Lib.hid (Below.grown HB1.out hg2 HB1.out.size (fun k hk => by injection hk with hk; omega))
  have HR2 := Lib.hid (blk_grown HR1.out hg2 (fun h => by injection h with h; omega))
  obtain ⟨u3, hrun3, hown3, hg3⟩ := hown2.update (string_keyed Tryd.underlying9) Tryd.underlying86 (by decide) (Go.WideMaps.keyOf_string_mk Tryd.underlying9 (s := ⟨#[113, 117, 101, 114, 121]⟩) (by decide)) (plainElem_int Tryd.underlying3 (a := 3) (by decide))
  have HB3 := Lib.hid (Below.grown HB2.out hg3 HB2.out.size (fun k hk => by injection hk with hk; omega))
  have HR3 := Lib.hid (blk_grown HR2.out hg3 (fun h => by injection h with h; omega))
  obtain ⟨u4, hrun4, hown4, hg4⟩ := hown3.update (string_keyed Tryd.underlying9) Tryd.underlying86 (by decide) (Go.WideMaps.keyOf_string_mk Tryd.underlying9 (s := ⟨#[119, 97, 116, 99, 104]⟩) (by decide)) (plainElem_int Tryd.underlying3 (a := 4) (by decide))
  have HB4 := Lib.hid (Below.grown HB3.out hg4 HB3.out.size (fun k hk => by injection hk with hk; omega))
  have HR4 := Lib.hid (blk_grown HR3.out hg4 (fun h => by injection h with h; omega))
  obtain ⟨u5, hrun5, hown5, hg5⟩ := hown4.update (string_keyed Tryd.underlying9) Tryd.underlying86 (by decide) (Go.WideMaps.keyOf_string_mk Tryd.underlying9 (s := ⟨#[116, 97, 107, 101]⟩) (by decide)) (plainElem_int Tryd.underlying3 (a := 5) (by decide))
  have HB5 := Lib.hid (Below.grown HB4.out hg5 HB4.out.size (fun k hk => by injection hk with hk; omega))
  have HR5 := Lib.hid (blk_grown HR4.out hg5 (fun h => by injection h with h; omega))
  obtain ⟨u6, hrun6, hown6, hg6⟩ := hown5.update (string_keyed Tryd.underlying9) Tryd.underlying86 (by decide) (Go.WideMaps.keyOf_string_mk Tryd.underlying9 (s := ⟨#[99, 97, 110, 99, 101, 108]⟩) (by decide)) (plainElem_int Tryd.underlying3 (a := 6) (by decide))
  have HB6 := Lib.hid (Below.grown HB5.out hg6 HB5.out.size (fun k hk => by injection hk with hk; omega))
  have HR6 := Lib.hid (blk_grown HR5.out hg6 (fun h => by injection h with h; omega))
  have HOM := Lib.hid hown6
  clear hg1 hg2 hg3 hg4 hg5 hg6 hown0 hown1 hown2 hown3 hown4 hown5 hown6 HB HB1 HB2 HB3 HB4 HB5 HR HR1 HR2 HR3 HR4 HR5
  have hwl : (ba wd).size ≤ maxLen := by
    have h1 : (ba wd).size = wd.length := by show wd.toArray.size = _; simp
    have h2 : s.data.toList.length = s.size := by rw [Array.length_toList]; rfl
    rw [h1]; unfold maxLen; have := hcl.1; omega
  obtain ⟨kc, hrunL, hat, _⟩ := HOM.out.lookup_int (string_keyed Tryd.underlying9) Tryd.underlying86 Tryd.underlying3 (by kernel_rfl) (Go.WideMaps.keyOf_string_mk Tryd.underlying9 (s := ba wd) hwl)
  have hkc : kc = kindL wd := by
    have h := kind_at wd (.lit (.int .i64 0)) rfl
    have h2 : D6.atKey (.string wd) (.lit (.int .i64 0)) = .lit (.int .i64 kc) := hat
    rw [h] at h2
    injection h2 with h2
    injection h2 with _ h2
    exact h2.symm
  subst hkc
  clear hat hwl
  generalize kindL wd = kk at HCF hrunL ⊢
  have HRC := Lib.hid (blk_alloc HR6.out (.cells #[.int .i64 c, .int .i64 (kk), .string ⟨#[]⟩, .int .i64 0] 46))
  have HCC := Lib.hid (heap_alloc_new u6 (.cells #[.int .i64 c, .int .i64 (kk), .string ⟨#[]⟩, .int .i64 0] 46))
  have HBC := Lib.hid (below_alloc HB6.out (.cells #[.int .i64 c, .int .i64 (kk), .string ⟨#[]⟩, .int .i64 0] 46))
  have hzu : w.heap.size < u6.heap.size := blk_lt HR6.out
  have r0 := blk_cell HR6.out 0
  have r1 := blk_cell HR6.out 1
  have r2 := blk_cell HR6.out 2
  have r3 := blk_cell HR6.out 3
  have q0 := blk_frozen HR6.out 0
  have q1 := blk_frozen HR6.out 1
  have q2 := blk_frozen HR6.out 2
  have q3 := blk_frozen HR6.out 3
  have c0 := blk_cell HCC.out 0
  have c1 := blk_cell HCC.out 1
  have c2 := blk_cell HCC.out 2
  have c3 := blk_cell HCC.out 3
  have g0 := blk_frozen HCC.out 0
  have g1 := blk_frozen HCC.out 1
  have g2 := blk_frozen HCC.out 2
  have g3 := blk_frozen HCC.out 3
  simp only [List.getElem?_toArray, List.getElem?_cons_zero, List.getElem?_cons_succ] at r0 r1 r2 r3 c0 c1 c2 c3
  have hne : w.heap.size ≠ u6.heap.size := by omega
  have hfin : ∀ (w' : World) (x : Bool) (v0 v1 v2 v3 : Value), Tch (u6.alloc (.cells #[.int .i64 c, .int .i64 kk, .string ⟨#[]⟩, .int .i64 0] 46)) w' (fun k => k = w.heap.size ∨ k = u6.heap.size) → Below w.heap.size w w' := fun w' x v0 v1 v2 v3 ht => HBC.out.trans (Tch.to_below ht HBC.out.size (fun k hk => by omega))
  by_cases k0 : kk = 0
  · subst k0
    rw [if_pos rfl] at HCF
    go_wp2_with fail
    refine bodyPost_ret (v := .tuple #[.agg #[.int .i64 c, .int .i64 0, .string ⟨#[]⟩, .int .i64 0], .bool false]) (by simp [results, Tryd.results40, go_sem, r0, r1, r2, r3, hzu]) rfl ?_
    rw [HCF.out]
    refine ⟨rfl, ?_⟩
    repeat (first | exact HB6.out | refine Below.setCell ?_ (by show w.heap.size ≤ _; first | exact Nat.le_refl _ | omega) _ | refine below_alloc ?_ _ | refine pw_below_drewN ?_ _ | refine below_drew ?_)
  · have e0 : (kk == 0) = false := by simpa using k0
    rw [if_neg k0] at HCF
    by_cases k5 : kk = 5
    · subst k5
      rw [if_pos (.inl rfl)] at HCF
      go_wp2_with fail
      refine bodyPost_ret (v := .tuple #[.agg #[.int .i64 c, .int .i64 5, .string ⟨#[]⟩, .int .i64 0], .bool (!has)]) (by simp [results, Tryd.results40, go_sem, r0, r1, r2, r3, hzu]) rfl ?_
      rw [HCF.out]
      refine ⟨rfl, ?_⟩
      repeat (first | exact HB6.out | refine Below.setCell ?_ (by show w.heap.size ≤ _; first | exact Nat.le_refl _ | omega) _ | refine below_alloc ?_ _ | refine pw_below_drewN ?_ _ | refine below_drew ?_)
    · have e5 : (kk == 5) = false := by simpa using k5
      by_cases k6 : kk = 6
      · subst k6
        rw [if_pos (.inr rfl)] at HCF
        go_wp2_with fail
        refine bodyPost_ret (v := .tuple #[.agg #[.int .i64 c, .int .i64 6, .string ⟨#[]⟩, .int .i64 0], .bool (!has)]) (by simp [results, Tryd.results40, go_sem, r0, r1, r2, r3, hzu]) rfl ?_
        rw [HCF.out]
        refine ⟨rfl, ?_⟩
        repeat (first | exact HB6.out | refine Below.setCell ?_ (by show w.heap.size ≤ _; first | exact Nat.le_refl _ | omega) _ | refine below_alloc ?_ _ | refine pw_below_drewN ?_ _ | refine below_drew ?_)
      · have e6 : (kk == 6) = false := by simpa using k6
        rw [if_neg (fun h => h.elim k5 k6)] at HCF
        by_cases k4 : kk = 4
        · subst k4
          rw [if_pos rfl] at HCF
          go_wp2_with fail
          have hta : (ba tl).data.toList = tl := by simp
          have htz : (ba tl).size = tl.length := by show tl.toArray.size = _; simp
          have hsl : s.data.toList.length = s.size := by rw [Array.length_toList]; rfl
          refine (Tryd.strings_Cut (ba tl) ⟨#[32]⟩ m _ (by omega) (pw_cell_below HBC.out hm)).mono ?_
          rintro e w2 ⟨rfl, n2, rfl⟩
          rw [hta, show (⟨#[32]⟩ : ByteArray).data.toList = [32] from rfl]
          have hcl2 := cut_le tl
          generalize (Lib.cut tl [32]).1 = rm at HCF hcl2 ⊢
          generalize (Lib.cut tl [32]).2.1 = tx at HCF hcl2 ⊢
          generalize (Lib.cut tl [32]).2.2 = ok at HCF ⊢
          have hrz : (ba rm).size = rm.length := by show rm.toArray.size = _; simp
          have hra : (ba rm).data.toList = rm := by simp
          clear hta htz hsl c0 c1 c2 c3 g0 g1 g2 g3
          cases ok with
          | false =>
            rw [if_neg (fun h => by cases h.1)] at HCF
            go_wp2_with fail
            refine bodyPost_ret (v := .tuple #[.agg #[.int .i64 c, .int .i64 4, .string ⟨#[]⟩, .int .i64 0], .bool false]) (by simp [results, Tryd.results40, go_sem, r0, r1, r2, r3, hzu]) rfl ?_
            rw [HCF.out]
            refine ⟨rfl, ?_⟩
            repeat (first | exact HB6.out | refine Below.setCell ?_ (by show w.heap.size ≤ _; first | exact Nat.le_refl _ | omega) _ | refine below_alloc ?_ _ | refine pw_below_drewN ?_ _ | refine below_drew ?_)
          | true =>
            by_cases l1 : rm.length < 1
            · rw [if_neg (fun h => by omega)] at HCF
              have e1 : decide ((rm.length : Int) < 1) = true := decide_eq_true (by omega)
              go_wp2_with fail
              refine bodyPost_ret (v := .tuple #[.agg #[.int .i64 c, .int .i64 4, .string ⟨#[]⟩, .int .i64 0], .bool false]) (by simp [results, Tryd.results40, go_sem, r0, r1, r2, r3, hzu]) rfl ?_
              rw [HCF.out]
              refine ⟨rfl, ?_⟩
              repeat (first | exact HB6.out | refine Below.setCell ?_ (by show w.heap.size ≤ _; first | exact Nat.le_refl _ | omega) _ | refine below_alloc ?_ _ | refine pw_below_drewN ?_ _ | refine below_drew ?_)
            · have e1 : decide ((rm.length : Int) < 1) = false := decide_eq_false (by omega)
              by_cases l3 : 3 < rm.length
              · rw [if_neg (fun h => by omega)] at HCF
                have e3 : decide ((3 : Int) < (rm.length : Int)) = true := decide_eq_true (by omega)
                go_wp2_with fail
                refine bodyPost_ret (v := .tuple #[.agg #[.int .i64 c, .int .i64 4, .string ⟨#[]⟩, .int .i64 0], .bool false]) (by simp [results, Tryd.results40, go_sem, r0, r1, r2, r3, hzu]) rfl ?_
                rw [HCF.out]
                refine ⟨rfl, ?_⟩
                repeat (first | exact HB6.out | refine Below.setCell ?_ (by show w.heap.size ≤ _; first | exact Nat.le_refl _ | omega) _ | refine below_alloc ?_ _ | refine pw_below_drewN ?_ _ | refine below_drew ?_)
              · have e3 : decide ((3 : Int) < (rm.length : Int)) = false := decide_eq_false (by omega)
                go_wp2_with fail
                refine (Any.strings_Trim_laid Tryd.lays160 (by kernel_rfl) (ba rm) ⟨#[48, 49, 50, 51, 52, 53, 54, 55, 56, 57]⟩ _ (by omega) (by decide) (ascii_of_all (by decide))).mono ?_
                rintro e w3 ⟨rfl, hb3⟩
                have hra : (ba rm).data.toList = rm := by simp
                rw [hra, show (⟨#[48, 49, 50, 51, 52, 53, 54, 55, 56, 57]⟩ : ByteArray).data.toList = [48, 49, 50, 51, 52, 53, 54, 55, 56, 57] from rfl]
                have HR3 := Lib.hid (blk_below (blk_drewN HRC.out n2) hb3)
                have HC3 := Lib.hid (blk_below (blk_drewN HCC.out n2) hb3)
                have HB3 := Lib.hid (below_then (pw_below_drewN HBC.out n2) HBC.out.size hb3)
                clear hb3 r0 r1 r2 r3 q0 q1 q2 q3
                by_cases hdg : digsL rm = true
                · rw [if_pos ⟨by simp, by omega, by omega, hdg⟩] at HCF
                  rw [(trim_digs rm).2 hdg]
                  obtain ⟨nn, hat⟩ := atoi_digs rm (by omega) hdg
                  rw [hat, Option.getD_some] at HCF
                  have HAT := Lib.hid hat
                  clear hat
                  go_wp2_with fail
                  refine (Tryd.strconv_Atoi (ba rm) nn (by omega) (by simpa using HAT.out) _).mono ?_
                  rintro e w4 ⟨rfl, t4, rfl⟩
                  have hb4 : Below w3.heap.size w3 (Lib.bytesWorld w3 5 t4) := ⟨rfl, rfl, rfl, by rw [Lib.bytesWorld_size]; omega, fun k hk => Lib.bytesWorld_at_old w3 _ t4 k (by omega)⟩
                  generalize Lib.bytesWorld w3 5 t4 = w4 at hb4 ⊢
                  have HX := Lib.hid (blk_below HR3.out hb4)
                  have HY := Lib.hid (blk_below HC3.out hb4)
                  have HBX := Lib.hid (below_then HB3.out HB3.out.size hb4)
                  clear hb4
                  have r0 := blk_cell HX.out 0
                  have r1 := blk_cell HX.out 1
                  have r2 := blk_cell HX.out 2
                  have r3 := blk_cell HX.out 3
                  have q0 := blk_frozen HX.out 0
                  have q1 := blk_frozen HX.out 1
                  have q2 := blk_frozen HX.out 2
                  have q3 := blk_frozen HX.out 3
                  have g0 := blk_frozen HY.out 0
                  have g1 := blk_frozen HY.out 1
                  have g2 := blk_frozen HY.out 2
                  have g3 := blk_frozen HY.out 3
                  have c0 := blk_cell HY.out 0
                  have c1 := blk_cell HY.out 1
                  have c2 := blk_cell HY.out 2
                  have c3 := blk_cell HY.out 3
                  simp only [List.getElem?_toArray, List.getElem?_cons_zero, List.getElem?_cons_succ] at r0 r1 r2 r3 c0 c1 c2 c3
                  go_wp2_with fail
                  refine bodyPost_ret (v := .tuple #[.agg #[.int .i64 c, .int .i64 4, .string (ba tx), .int .i64 nn], .bool true]) (by simp [results, Tryd.results40, go_sem, r0, r1, r2, r3, hzu]) rfl ?_
                  rw [HCF.out]
                  refine ⟨rfl, ?_⟩
                  repeat (first | exact HBX.out | refine Below.setCell ?_ (by show w.heap.size ≤ _; first | exact Nat.le_refl _ | exact Nat.le_of_lt hzu) _ | refine below_alloc ?_ _ | refine pw_below_drewN ?_ _ | refine below_drew ?_)
                · rw [if_neg (fun h => hdg h.2.2.2)] at HCF
                  have hx : (Lib.trimS rm [48, 49, 50, 51, 52, 53, 54, 55, 56, 57]).isEmpty = false := by
                    rw [Bool.eq_false_iff]
                    intro h
                    exact hdg ((trim_digs rm).1 (List.isEmpty_iff.1 h))
                  have HX := HR3
                  have HY := HC3
                  have HBX := HB3
                  have r0 := blk_cell HX.out 0
                  have r1 := blk_cell HX.out 1
                  have r2 := blk_cell HX.out 2
                  have r3 := blk_cell HX.out 3
                  have q0 := blk_frozen HX.out 0
                  have q1 := blk_frozen HX.out 1
                  have q2 := blk_frozen HX.out 2
                  have q3 := blk_frozen HX.out 3
                  have g0 := blk_frozen HY.out 0
                  have g1 := blk_frozen HY.out 1
                  have g2 := blk_frozen HY.out 2
                  have g3 := blk_frozen HY.out 3
                  have c0 := blk_cell HY.out 0
                  have c1 := blk_cell HY.out 1
                  have c2 := blk_cell HY.out 2
                  have c3 := blk_cell HY.out 3
                  simp only [List.getElem?_toArray, List.getElem?_cons_zero, List.getElem?_cons_succ] at r0 r1 r2 r3 c0 c1 c2 c3
                  go_wp2_with fail
                  refine bodyPost_ret (v := .tuple #[.agg #[.int .i64 c, .int .i64 4, .string ⟨#[]⟩, .int .i64 0], .bool false]) (by simp [results, Tryd.results40, go_sem, r0, r1, r2, r3, hzu]) rfl ?_
                  rw [HCF.out]
                  refine ⟨rfl, ?_⟩
                  repeat (first | exact HBX.out | refine Below.setCell ?_ (by show w.heap.size ≤ _; first | exact Nat.le_refl _ | exact Nat.le_of_lt hzu) _ | refine below_alloc ?_ _ | refine pw_below_drewN ?_ _ | refine below_drew ?_)
        · have e4 : (kk == 4) = false := by simpa using k4
          rw [if_neg k4] at HCF
          go_wp2_with fail
          refine bodyPost_ret (v := .tuple #[.agg #[.int .i64 c, .int .i64 kk, .string (ba tl), .int .i64 0], .bool has]) (by simp [results, Tryd.results40, go_sem, r0, r1, r2, r3, hzu]) rfl ?_
          rw [HCF.out]
          refine ⟨rfl, ?_⟩
          repeat (first | exact HB6.out | refine Below.setCell ?_ (by show w.heap.size ≤ _; first | exact Nat.le_refl _ | omega) _ | refine below_alloc ?_ _ | refine pw_below_drewN ?_ _ | refine below_drew ?_)
end Go.Proofs.YtfadnchkododdaaDoor.Ps
