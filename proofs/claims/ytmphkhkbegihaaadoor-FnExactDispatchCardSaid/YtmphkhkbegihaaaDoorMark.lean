/- The marks of rows of rows: contracts by hand, over Tree's rows that lie apart. -/
import Derived.Test.YtmphkhkbegihaaaDoorPHubx
import Derived.Test.YtmphkhkbegihaaaDoorTree
import Derived.WalkKit
import Derived.LoopTactic
import Derived.Lib.Hide
import Derived.Outline
namespace Go.Proofs.YtmphkhkbegihaaaDoor.Mark
open Go Go.RowKit Go.Proofs.YtmphkhkbegihaaaDoor.PHub Go.Proofs.YtmphkhkbegihaaaDoorW.PrintWords Go.Proofs.YtmphkhkbegihaaaDoor.Tree
set_option linter.unusedVariables false
set_option linter.unusedSimpArgs false

/-- From w to w' no more than S's blocks were written; what is new is free. -/
structure Tch (w w' : World) (S : Nat → Prop) : Prop where
  os : w'.os = w.os
  tape : w'.tape = w.tape
  output : w'.output = w.output
  kept : Kept w w' S
theorem Tch.refl (w : World) (S : Nat → Prop) : Tch w w S := ⟨rfl, rfl, rfl, Kept.refl w S⟩
theorem Tch.then_ {w w1 w2 : World} {S S2 : Nat → Prop} (h : Tch w w1 S) (k : Tch w1 w2 S2) (hs : ∀ k, S2 k → S k ∨ w.heap.size ≤ k) : Tch w w2 S :=
  ⟨k.os.trans h.os, k.tape.trans h.tape, k.output.trans h.output, h.kept.then_ k.kept hs⟩
theorem Tch.below {w w1 w2 : World} {S : Nat → Prop} (h : Tch w w1 S) (k : Below w1.heap.size w1 w2) : Tch w w2 S :=
  ⟨k.os.trans h.os, k.tape.trans h.tape, k.output.trans h.output, h.kept.below k⟩
theorem Tch.setCell {w w1 : World} {S : Nat → Prop} (h : Tch w w1 S) {p : Addr} (hp : S p.block ∨ w.heap.size ≤ p.block) (u : Value) : Tch w (w1.setCell p u) S :=
  ⟨h.os, h.tape, h.output, h.kept.setCell hp u⟩
theorem Tch.mono {w w1 : World} {S S' : Nat → Prop} (h : Tch w w1 S) (hs : ∀ k, S k → S' k) : Tch w w1 S' := ⟨h.os, h.tape, h.output, h.kept.mono hs⟩
theorem Tch.to_below {w w1 : World} {S : Nat → Prop} {B : Nat} (h : Tch w w1 S) (hB : B ≤ w.heap.size) (hS : ∀ k, S k → B ≤ k) : Below B w w1 :=
  ⟨h.os, h.tape, h.output, h.kept.1, fun k hk => h.kept.2 k (by omega) (fun hs => by have := hS k hs; omega)⟩
theorem Tch.of_below {w w1 : World} (h : Below w.heap.size w w1) (S : Nat → Prop) : Tch w w1 S := ⟨h.os, h.tape, h.output, Kept.of_below h S⟩

/-! ### the text of a mark -/
def mt (x : Int) : ByteArray := (laws_markText.f 64 x).getD ByteArray.empty
theorem strOne (a : Int) : (strOfNums [a]).size = 1 := rfl
theorem mt_loop : ∀ (n : Nat) (x : Int) (acc : ByteArray), 0 ≤ x → x < 10 ^ n → x ≤ 4611686018427387904 → acc.size + n + 1 ≤ 9223372036854775807 → ∃ t, laws_markText.l0 (n + 1) x acc = some t
  | 0, x, acc, h0, h1, hx, h2 => by
    have : x = 0 := by simp at h1; omega
    subst this
    simp only [laws_markText.l0]
    rw [if_neg (by omega), if_pos (by omega)]
    exact ⟨_, rfl⟩
  | n + 1, x, acc, h0, h1, hx, h2 => by
    simp only [laws_markText.l0]
    by_cases hp : x > 0
    · rw [if_pos hp]
      simp only [Option.bind_some]
      rw [if_pos (by rw [strOne]; omega)]
      have hd : Int.tdiv x 10 = x / 10 := Int.tdiv_eq_ediv_of_nonneg h0
      have hw : wrap64 (Int.tdiv x 10) = x / 10 := by rw [hd]; unfold wrap64; omega
      rw [hw]
      exact mt_loop n _ _ (by omega) (by rw [Int.pow_succ] at h1; omega) (by omega) (by rw [ByteArray.size_append, strOne]; omega)
    · rw [if_neg hp, if_pos (by omega)]
      exact ⟨_, rfl⟩
theorem mt_some (x : Int) (h : x ≤ 4611686018427387904) : laws_markText.f 64 x = some (mt x) := by
  have : ∃ t, laws_markText.f 64 x = some t := by
    unfold laws_markText.f
    by_cases h0 : x ≤ 0
    · rw [if_pos h0]; exact ⟨_, rfl⟩
    · rw [if_neg h0]
      obtain ⟨t, ht⟩ := mt_loop 63 x ⟨#[]⟩ (by omega) (by omega) h (by show 0 + 63 + 1 ≤ _; omega)
      exact ⟨t, ht⟩
  obtain ⟨t, ht⟩ := this
  rw [mt, ht]
  rfl

/-! ### marks, plainly -/
def mkStr : Int → List ByteArray → List ByteArray
  | _, [] => []
  | a, _ :: t => mt a :: mkStr (a + 1) t
theorem mkStr_len : ∀ (a : Int) (l : List ByteArray), (mkStr a l).length = l.length
  | _, [] => rfl
  | a, _ :: t => by simp [mkStr, mkStr_len (a + 1) t]

theorem set_done {α : Type} (p : List α) (x y : α) (t : List α) : ((p ++ [x]) ++ t).set p.length y = (p ++ [y]) ++ t := by simp
theorem done_set {α : Type} (p : List α) (x y : α) (t : List α) : (p ++ x :: t).set p.length y = (p ++ [y]) ++ t := by simp

set_option maxRecDepth 100000 in
set_option maxHeartbeats 2000000 in
theorem mark_str (l0 : List ByteArray) (a1 : Int) (u : Value) (ok : Nat → Prop) (w : World) (h0 : 0 ≤ a1) (hb : a1 + l0.length ≤ 4611686018427387904) (hT : T Kd.string 9 w 0 ok u l0) :
    Calls Tryd.prog 17 #[u, .int .i64 a1] w fun e w' => e = .returned (.int .i64 (a1 + l0.length)) ∧ T Kd.string 9 w' 0 ok u (mkStr a1 l0) ∧ Tch w w' ok := by
  obtain ⟨A, c, rfl, hc⟩ := T_slice hT
  have hmx := T_max hT
  have HT := Lib.hid hT
  clear hT
  go_enter Tryd.func17, Tryd.ntmps17
  go_wp2
  go_loopw [1, 5] (fun v1 v5 w' => ∃ (p q : List ByteArray), v1 = .int .i64 (a1 + p.length) ∧ v5 = .int .i64 p.length ∧ Hid (p.length + q.length = l0.length) ∧ Hid (mkStr a1 l0 = p ++ mkStr (a1 + p.length) q) ∧ Hid (T Kd.string 9 w' 0 ok (.slice A l0.length c) (p ++ q)) ∧ Hid (Tch w w' ok)) (fun _ v5 _ => l0.length - (intOf v5).toNat)
  case atStart => exact ⟨[], l0, by simp, rfl, Lib.hid (by simp), Lib.hid (by simp), HT, Lib.hid (Tch.refl w ok)⟩
  case round =>
    obtain ⟨p, q, rfl, rfl, HL, HM, HT, HK⟩ := hrel
    cases q with
    | nil =>
      have hl : p.length = l0.length := by have := HL.out; simpa using this
      have HL2 := Lib.hid hl
      clear hl
      rw [HL2.out]
      go_wp2
      go_ret
      refine ⟨rfl, ?_, HK.out⟩
      rw [HM.out]
      have := HT.out
      simpa [mkStr] using this
    | cons x q =>
      have hl : p.length < l0.length := by have := HL.out; simp at this; omega
      obtain ⟨g, o, rfl⟩ := T_addr HT.out (by simp; omega)
      go_wp2_with fail
      refine (laws_markText.calls 64 _ (mt _) _ (mt_some _ (by omega))).mono ?_
      rintro e w1 ⟨rfl, hb1⟩
      have HT1 := Lib.hid (T_below HT.out hb1)
      have HK1 := Lib.hid (HK.out.below hb1)
      clear hb1 HT HK
      obtain ⟨F, cs, hF, hcl, hcc, hfr, hM, hlt, hg, hback⟩ := T_inner HT1.out p.length x (by simp)
      have hx : w1.cell? ⟨g, o + p.length, none⟩ = some (.string x) := by
        have h1 := hcc 0 (.string x) (by rw [hM]; rfl)
        simpa [Kd.string, Kd.scalar] using h1
      have hf := hfr (o + p.length)
      have HG := Lib.hid hg
      clear hF hcl hcc hfr hM hlt hg hback F cs
      go_wp2_with fail
      go_roundw
      case rel =>
        refine ⟨p ++ [mt (a1 + p.length)], q, ?_, ?_, Lib.hid (by have := HL.out; simp at this ⊢; omega), Lib.hid (by rw [HM.out]; simp [mkStr]; congr 1; omega), Lib.hid ?_, Lib.hid (HK1.out.setCell (.inl HG.out) _)⟩
        · simp; rw [show (a1 + ↑p.length + 1) = a1 + (↑p.length + 1) by omega]
        · simp
        · have h := T_put1 HT1.out p.length 0 x (mt (a1 + p.length)) (by simp) (.string (mt (a1 + p.length))) (by decide) (o + p.length) (by show _ = o + p.length * 1 + 0; omega) (fun F cs h => by rw [h]; rfl)
          rw [done_set] at h
          exact h
      case measure => simp [intOf]; omega

/-! ### impl.Message -/
def m112 : Kd S112 := Kd.iso (Kd.pair (Kd.int .i64) (Kd.pair (tsl 9 Kd.string) Kd.bool)) (fun x : S112 => (x.f0, x.f1, x.f2))
theorem m112_open {w : World} {base : Nat} {ok : Nat → Prop} {x : S112} {cs : List Value} (h : m112.M w base ok x cs) : ∃ v1, cs = [.int .i64 x.f0, v1, .bool x.f2] ∧ T Kd.string 9 w base ok v1 x.f1 := by
  obtain ⟨c0, d0, rfl, h0, c1, d1, rfl, h1, h2⟩ := h
  cases h0
  obtain ⟨v1, rfl, h1⟩ := h1
  cases h2
  exact ⟨v1, rfl, h1⟩
theorem m112_mk {w : World} {base : Nat} {ok : Nat → Prop} (x : S112) {v1 : Value} (h1 : T Kd.string 9 w base ok v1 x.f1) : m112.M w base ok x [.int .i64 x.f0, v1, .bool x.f2] := ⟨[.int .i64 x.f0], [v1, .bool x.f2], rfl, rfl, ⟨[v1], [.bool x.f2], rfl, ⟨v1, rfl, h1⟩, rfl⟩⟩
def cMsg (x : S112) : Nat := 2 + x.f1.length
def cMsgS : List S112 → Nat
  | [] => 0
  | x :: t => cMsg x + cMsgS t
def mkMsg (k : Int) (x : S112) : S112 := ⟨k, mkStr (k + 1) x.f1, ((k + 1) + (x.f1.length : Nat)) % 3 == 0⟩
def mkMsgS : Int → List S112 → List S112
  | _, [] => []
  | k, x :: t => mkMsg k x :: mkMsgS (k + cMsg x) t
theorem mkMsgS_len : ∀ (k : Int) (l : List S112), (mkMsgS k l).length = l.length
  | _, [] => rfl
  | k, x :: t => by simp [mkMsgS, mkMsgS_len (k + cMsg x) t]
set_option maxRecDepth 100000 in
set_option maxHeartbeats 4000000 in
theorem mark_Msg (l0 : List S112) (a1 : Int) (u : Value) (ok : Nat → Prop) (w : World) (h0 : 0 ≤ a1) (hb : a1 + cMsgS l0 ≤ 4611686018427387904) (hT : T m112 112 w 0 ok u l0) :
    Calls Tryd.prog 85 #[u, .int .i64 a1] w fun e w' => e = .returned (.int .i64 (a1 + cMsgS l0)) ∧ T m112 112 w' 0 ok u (mkMsgS a1 l0) ∧ Tch w w' ok := by
  obtain ⟨A, c, rfl, hc⟩ := T_slice hT
  have hmx := T_max hT
  have HT := Lib.hid hT
  clear hT
  go_enter Tryd.func85, Tryd.ntmps85
  go_wp2
  go_loopw [1, 5] (fun v1 v5 w' => ∃ (p q : List S112) (a : Int), v1 = .int .i64 a ∧ v5 = .int .i64 p.length ∧ Hid (0 ≤ a ∧ a + cMsgS q = a1 + cMsgS l0) ∧ Hid (p.length + q.length = l0.length) ∧ Hid (mkMsgS a1 l0 = p ++ mkMsgS a q) ∧ Hid (T m112 112 w' 0 ok (.slice A l0.length c) (p ++ q)) ∧ Hid (Tch w w' ok)) (fun _ v5 _ => l0.length - (intOf v5).toNat)
  case atStart => exact ⟨[], l0, a1, rfl, rfl, Lib.hid ⟨h0, rfl⟩, Lib.hid (by simp), Lib.hid (by simp), HT, Lib.hid (Tch.refl w ok)⟩
  case round =>
    obtain ⟨p, q, a, rfl, rfl, HA, HL, HM, HT, HK⟩ := hrel
    cases q with
    | nil =>
      have hl : p.length = l0.length := by have := HL.out; simpa using this
      have ha : a = a1 + cMsgS l0 := by have := HA.out; simpa [cMsgS] using this.2
      have HL2 := Lib.hid hl
      have HA2 := Lib.hid ha
      clear hl ha
      rw [HL2.out]
      go_wp2
      go_ret
      refine ⟨by rw [HA2.out]; rfl, ?_, HK.out⟩
      rw [HM.out]
      have := HT.out
      simpa [mkMsgS] using this
    | cons x q =>
      have hl : p.length < l0.length := by have := HL.out; simp at this; omega
      have ha0 : 0 ≤ a := HA.out.1
      have ha1 : a + cMsg x + cMsgS q = a1 + cMsgS l0 := by have := HA.out.2; simp only [cMsgS] at this; omega
      have hn1 : 0 ≤ ((x.f1.length : Nat) : Int) := Int.natCast_nonneg _
      have ha2 : a + 2 + ((x.f1.length : Nat) : Int) ≤ 4611686018427387904 := by simp only [cMsg] at ha1; omega
      have HA1 := Lib.hid ha1
      clear ha1
      obtain ⟨g, o, rfl⟩ := T_addr HT.out (by simp; omega)
      rw [show p ++ x :: q = (p ++ [x]) ++ q by simp] at HT
      obtain ⟨F, cs, hF, hcl, hcc, hfr, hM, hlt, hg, hback⟩ := T_inner HT.out p.length x (by simp)
      obtain ⟨v1, rfl, hv1⟩ := m112_open hM
      have hx0 : World.cell? wr ⟨g, o + p.length * 3, none⟩ = some (.int .i64 x.f0) := hcc 0 _ rfl
      have hf0 := hfr (o + p.length * 3)
      have hx1 : World.cell? wr ⟨g, o + p.length * 3 + 1, none⟩ = some (v1) := hcc 1 _ rfl
      have hf1 := hfr (o + p.length * 3 + 1)
      have hx2 : World.cell? wr ⟨g, o + p.length * 3 + 2, none⟩ = some (.bool x.f2) := hcc 2 _ rfl
      have hf2 := hfr (o + p.length * 3 + 2)
      have HG := Lib.hid hg
      have HE1 := Lib.hid hx1
      clear hF hcl hcc hfr hM hlt hg hback F hv1
      have HT1 := Lib.hid (T_put1 HT.out p.length 0 (⟨x.f0, x.f1, x.f2⟩ : S112) (⟨a, x.f1, x.f2⟩ : S112) (by simp) (.int .i64 a) (by decide) (o + p.length * 3) rfl (fun F cs h => by obtain ⟨v1, rfl, hv1⟩ := m112_open h; exact m112_mk ⟨a, x.f1, x.f2⟩ hv1))
      have HK1 := Lib.hid (HK.out.setCell (p := ⟨g, o + p.length * 3, none⟩) (.inl HG.out) (.int .i64 a))
      rw [set_done] at HT1
      go_wp2_with fail
      obtain ⟨F, cs, hF, hcl, hcc, hfr, hM, hlt, hg, hback⟩ := T_inner HT1.out p.length ⟨a, x.f1, x.f2⟩ (by simp)
      obtain ⟨v1', rfl, hv1⟩ := m112_open hM
      obtain rfl : v1' = v1 := by
        have h1 : World.cell? (World.setCell wr ⟨g, o + p.length * 3, none⟩ (.int .i64 a)) ⟨g, o + p.length * 3 + 1, none⟩ = some v1' := hcc 1 _ rfl
        have h2 := HE1.out
        (repeat rw [World.cell?_setCell_other _ _ _ _ (by intro h; injection h with _ h; omega)] at h1)
        exact Option.some.inj (h1.symm.trans h2)
      refine (mark_str x.f1 ((a + 1)) v1' F _ (by omega) (by omega) hv1).mono ?_
      rintro e w1 ⟨rfl, hvn, hk1⟩
      have HT2 := Lib.hid (hback w1 ⟨a, mkStr (a + 1) x.f1, x.f2⟩ hk1.kept (m112_mk ⟨a, mkStr (a + 1) x.f1, x.f2⟩ hvn))
      have HK2 := Lib.hid (HK1.out.then_ hk1 (fun k hk => .inl (hF k hk).1))
      clear hF hcl hcc hfr hM hlt hg hback F hk1 hvn hv1 HG hx0 hf0 hx1 hf1 hx2 hf2 HE1
      rw [set_done] at HT2
      obtain ⟨F, cs, hF, hcl, hcc, hfr, hM, hlt, hg, hback⟩ := T_inner HT2.out p.length ⟨a, mkStr (a + 1) x.f1, x.f2⟩ (by simp)
      obtain ⟨v1, rfl, hv1⟩ := m112_open hM
      have hx0 : World.cell? w1 ⟨g, o + p.length * 3, none⟩ = some (.int .i64 a) := hcc 0 _ rfl
      have hf0 := hfr (o + p.length * 3)
      have hx1 : World.cell? w1 ⟨g, o + p.length * 3 + 1, none⟩ = some (v1) := hcc 1 _ rfl
      have hf1 := hfr (o + p.length * 3 + 1)
      have hx2 : World.cell? w1 ⟨g, o + p.length * 3 + 2, none⟩ = some (.bool x.f2) := hcc 2 _ rfl
      have hf2 := hfr (o + p.length * 3 + 2)
      have HG := Lib.hid hg
      have HE1 := Lib.hid hx1
      clear hF hcl hcc hfr hM hlt hg hback F hv1
      have HT3 := Lib.hid (T_put1 HT2.out p.length 2 (⟨a, mkStr (a + 1) x.f1, x.f2⟩ : S112) (⟨a, mkStr (a + 1) x.f1, ((a + 1) + (x.f1.length : Nat)) % 3 == 0⟩ : S112) (by simp) (.bool (((a + 1) + (x.f1.length : Nat)) % 3 == 0)) (by decide) (o + p.length * 3 + 2) rfl (fun F cs h => by obtain ⟨v1, rfl, hv1⟩ := m112_open h; exact m112_mk ⟨a, mkStr (a + 1) x.f1, ((a + 1) + (x.f1.length : Nat)) % 3 == 0⟩ hv1))
      have HK3 := Lib.hid (HK2.out.setCell (p := ⟨g, o + p.length * 3 + 2, none⟩) (.inl HG.out) (.bool (((a + 1) + (x.f1.length : Nat)) % 3 == 0)))
      rw [set_done] at HT3
      go_wp2_with fail
      go_roundw
      case rel =>
        refine ⟨p ++ [mkMsg a x], q, a + cMsg x, ?_, ?_, Lib.hid ⟨by omega, ?_⟩, Lib.hid (by have := HL.out; simp at this ⊢; omega), Lib.hid (by rw [HM.out]; simp [mkMsgS]), ?_, ?_⟩
        · simp only [cMsg]; congr 1; omega
        · simp
        · have := HA1.out; omega
        · exact HT3
        · exact HK3
      case measure => simp [intOf]; omega
/-! ### impl.Watch -/
def m76 : Kd S76 := Kd.iso (Kd.pair (Kd.int .i64) (Kd.pair Kd.string (Kd.pair (Kd.int .i64) (Kd.pair (Kd.int .i64) (Kd.pair Kd.bool (tsl 112 m112)))))) (fun x : S76 => (x.f0, x.f1, x.f2, x.f3, x.f4, x.f5))
theorem m76_open {w : World} {base : Nat} {ok : Nat → Prop} {x : S76} {cs : List Value} (h : m76.M w base ok x cs) : ∃ v5, cs = [.int .i64 x.f0, .string x.f1, .int .i64 x.f2, .int .i64 x.f3, .bool x.f4, v5] ∧ T m112 112 w base ok v5 x.f5 := by
  obtain ⟨c0, d0, rfl, h0, c1, d1, rfl, h1, c2, d2, rfl, h2, c3, d3, rfl, h3, c4, d4, rfl, h4, h5⟩ := h
  cases h0
  cases h1
  cases h2
  cases h3
  cases h4
  obtain ⟨v5, rfl, h5⟩ := h5
  exact ⟨v5, rfl, h5⟩
theorem m76_mk {w : World} {base : Nat} {ok : Nat → Prop} (x : S76) {v5 : Value} (h5 : T m112 112 w base ok v5 x.f5) : m76.M w base ok x [.int .i64 x.f0, .string x.f1, .int .i64 x.f2, .int .i64 x.f3, .bool x.f4, v5] := ⟨[.int .i64 x.f0], [.string x.f1, .int .i64 x.f2, .int .i64 x.f3, .bool x.f4, v5], rfl, rfl, ⟨[.string x.f1], [.int .i64 x.f2, .int .i64 x.f3, .bool x.f4, v5], rfl, rfl, ⟨[.int .i64 x.f2], [.int .i64 x.f3, .bool x.f4, v5], rfl, rfl, ⟨[.int .i64 x.f3], [.bool x.f4, v5], rfl, rfl, ⟨[.bool x.f4], [v5], rfl, rfl, ⟨v5, rfl, h5⟩⟩⟩⟩⟩⟩
def cWat (x : S76) : Nat := 5 + cMsgS x.f5
def cWatS : List S76 → Nat
  | [] => 0
  | x :: t => cWat x + cWatS t
def mkWat (k : Int) (x : S76) : S76 := ⟨k, mt (k + 1), ((k + 1) + 1), (((k + 1) + 1) + 1), ((((k + 1) + 1) + 1) + 1) % 3 == 0, mkMsgS (((((k + 1) + 1) + 1) + 1) + 1) x.f5⟩
def mkWatS : Int → List S76 → List S76
  | _, [] => []
  | k, x :: t => mkWat k x :: mkWatS (k + cWat x) t
theorem mkWatS_len : ∀ (k : Int) (l : List S76), (mkWatS k l).length = l.length
  | _, [] => rfl
  | k, x :: t => by simp [mkWatS, mkWatS_len (k + cWat x) t]
set_option maxRecDepth 100000 in
set_option maxHeartbeats 4000000 in
theorem mark_Wat (l0 : List S76) (a1 : Int) (u : Value) (ok : Nat → Prop) (w : World) (h0 : 0 ≤ a1) (hb : a1 + cWatS l0 ≤ 4611686018427387904) (hT : T m76 76 w 0 ok u l0) :
    Calls Tryd.prog 59 #[u, .int .i64 a1] w fun e w' => e = .returned (.int .i64 (a1 + cWatS l0)) ∧ T m76 76 w' 0 ok u (mkWatS a1 l0) ∧ Tch w w' ok := by
  obtain ⟨A, c, rfl, hc⟩ := T_slice hT
  have hmx := T_max hT
  have HT := Lib.hid hT
  clear hT
  go_enter Tryd.func59, Tryd.ntmps59
  go_wp2
  go_loopw [1, 5] (fun v1 v5 w' => ∃ (p q : List S76) (a : Int), v1 = .int .i64 a ∧ v5 = .int .i64 p.length ∧ Hid (0 ≤ a ∧ a + cWatS q = a1 + cWatS l0) ∧ Hid (p.length + q.length = l0.length) ∧ Hid (mkWatS a1 l0 = p ++ mkWatS a q) ∧ Hid (T m76 76 w' 0 ok (.slice A l0.length c) (p ++ q)) ∧ Hid (Tch w w' ok)) (fun _ v5 _ => l0.length - (intOf v5).toNat)
  case atStart => exact ⟨[], l0, a1, rfl, rfl, Lib.hid ⟨h0, rfl⟩, Lib.hid (by simp), Lib.hid (by simp), HT, Lib.hid (Tch.refl w ok)⟩
  case round =>
    obtain ⟨p, q, a, rfl, rfl, HA, HL, HM, HT, HK⟩ := hrel
    cases q with
    | nil =>
      have hl : p.length = l0.length := by have := HL.out; simpa using this
      have ha : a = a1 + cWatS l0 := by have := HA.out; simpa [cWatS] using this.2
      have HL2 := Lib.hid hl
      have HA2 := Lib.hid ha
      clear hl ha
      rw [HL2.out]
      go_wp2
      go_ret
      refine ⟨by rw [HA2.out]; rfl, ?_, HK.out⟩
      rw [HM.out]
      have := HT.out
      simpa [mkWatS] using this
    | cons x q =>
      have hl : p.length < l0.length := by have := HL.out; simp at this; omega
      have ha0 : 0 ≤ a := HA.out.1
      have ha1 : a + cWat x + cWatS q = a1 + cWatS l0 := by have := HA.out.2; simp only [cWatS] at this; omega
      have hn5 : 0 ≤ ((cMsgS x.f5 : Nat) : Int) := Int.natCast_nonneg _
      have ha2 : a + 5 + ((cMsgS x.f5 : Nat) : Int) ≤ 4611686018427387904 := by simp only [cWat] at ha1; omega
      have HA1 := Lib.hid ha1
      clear ha1
      obtain ⟨g, o, rfl⟩ := T_addr HT.out (by simp; omega)
      rw [show p ++ x :: q = (p ++ [x]) ++ q by simp] at HT
      obtain ⟨F, cs, hF, hcl, hcc, hfr, hM, hlt, hg, hback⟩ := T_inner HT.out p.length x (by simp)
      obtain ⟨v5, rfl, hv5⟩ := m76_open hM
      have hx0 : World.cell? wr ⟨g, o + p.length * 6, none⟩ = some (.int .i64 x.f0) := hcc 0 _ rfl
      have hf0 := hfr (o + p.length * 6)
      have hx1 : World.cell? wr ⟨g, o + p.length * 6 + 1, none⟩ = some (.string x.f1) := hcc 1 _ rfl
      have hf1 := hfr (o + p.length * 6 + 1)
      have hx2 : World.cell? wr ⟨g, o + p.length * 6 + 2, none⟩ = some (.int .i64 x.f2) := hcc 2 _ rfl
      have hf2 := hfr (o + p.length * 6 + 2)
      have hx3 : World.cell? wr ⟨g, o + p.length * 6 + 3, none⟩ = some (.int .i64 x.f3) := hcc 3 _ rfl
      have hf3 := hfr (o + p.length * 6 + 3)
      have hx4 : World.cell? wr ⟨g, o + p.length * 6 + 4, none⟩ = some (.bool x.f4) := hcc 4 _ rfl
      have hf4 := hfr (o + p.length * 6 + 4)
      have hx5 : World.cell? wr ⟨g, o + p.length * 6 + 5, none⟩ = some (v5) := hcc 5 _ rfl
      have hf5 := hfr (o + p.length * 6 + 5)
      have HG := Lib.hid hg
      have HE5 := Lib.hid hx5
      clear hF hcl hcc hfr hM hlt hg hback F hv5
      have HT1 := Lib.hid (T_put1 HT.out p.length 0 (⟨x.f0, x.f1, x.f2, x.f3, x.f4, x.f5⟩ : S76) (⟨a, x.f1, x.f2, x.f3, x.f4, x.f5⟩ : S76) (by simp) (.int .i64 a) (by decide) (o + p.length * 6) rfl (fun F cs h => by obtain ⟨v5, rfl, hv5⟩ := m76_open h; exact m76_mk ⟨a, x.f1, x.f2, x.f3, x.f4, x.f5⟩ hv5))
      have HK1 := Lib.hid (HK.out.setCell (p := ⟨g, o + p.length * 6, none⟩) (.inl HG.out) (.int .i64 a))
      rw [set_done] at HT1
      go_wp2_with fail
      refine (laws_markText.calls 64 ((a + 1)) (mt ((a + 1))) _ (mt_some _ (by omega))).mono ?_
      rintro e w1 ⟨rfl, hb1⟩
      have HT2 := Lib.hid (T_below HT1.out hb1)
      have HK2 := Lib.hid (HK1.out.below hb1)
      clear hb1 hx0 hf0 hx1 hf1 hx2 hf2 hx3 hf3 hx4 hf4 hx5 hf5 HE5 HG
      obtain ⟨F, cs, hF, hcl, hcc, hfr, hM, hlt, hg, hback⟩ := T_inner HT2.out p.length ⟨a, x.f1, x.f2, x.f3, x.f4, x.f5⟩ (by simp)
      obtain ⟨v5, rfl, hv5⟩ := m76_open hM
      have hx0 : World.cell? w1 ⟨g, o + p.length * 6, none⟩ = some (.int .i64 a) := hcc 0 _ rfl
      have hf0 := hfr (o + p.length * 6)
      have hx1 : World.cell? w1 ⟨g, o + p.length * 6 + 1, none⟩ = some (.string x.f1) := hcc 1 _ rfl
      have hf1 := hfr (o + p.length * 6 + 1)
      have hx2 : World.cell? w1 ⟨g, o + p.length * 6 + 2, none⟩ = some (.int .i64 x.f2) := hcc 2 _ rfl
      have hf2 := hfr (o + p.length * 6 + 2)
      have hx3 : World.cell? w1 ⟨g, o + p.length * 6 + 3, none⟩ = some (.int .i64 x.f3) := hcc 3 _ rfl
      have hf3 := hfr (o + p.length * 6 + 3)
      have hx4 : World.cell? w1 ⟨g, o + p.length * 6 + 4, none⟩ = some (.bool x.f4) := hcc 4 _ rfl
      have hf4 := hfr (o + p.length * 6 + 4)
      have hx5 : World.cell? w1 ⟨g, o + p.length * 6 + 5, none⟩ = some (v5) := hcc 5 _ rfl
      have hf5 := hfr (o + p.length * 6 + 5)
      have HG := Lib.hid hg
      have HE5 := Lib.hid hx5
      clear hF hcl hcc hfr hM hlt hg hback F hv5
      have HT3 := Lib.hid (T_put1 HT2.out p.length 1 (⟨a, x.f1, x.f2, x.f3, x.f4, x.f5⟩ : S76) (⟨a, mt (a + 1), x.f2, x.f3, x.f4, x.f5⟩ : S76) (by simp) (.string (mt (a + 1))) (by decide) (o + p.length * 6 + 1) rfl (fun F cs h => by obtain ⟨v5, rfl, hv5⟩ := m76_open h; exact m76_mk ⟨a, mt (a + 1), x.f2, x.f3, x.f4, x.f5⟩ hv5))
      have HK3 := Lib.hid (HK2.out.setCell (p := ⟨g, o + p.length * 6 + 1, none⟩) (.inl HG.out) (.string (mt (a + 1))))
      rw [set_done] at HT3
      have HT4 := Lib.hid (T_put1 HT3.out p.length 2 (⟨a, mt (a + 1), x.f2, x.f3, x.f4, x.f5⟩ : S76) (⟨a, mt (a + 1), ((a + 1) + 1), x.f3, x.f4, x.f5⟩ : S76) (by simp) (.int .i64 (((a + 1) + 1))) (by decide) (o + p.length * 6 + 2) rfl (fun F cs h => by obtain ⟨v5, rfl, hv5⟩ := m76_open h; exact m76_mk ⟨a, mt (a + 1), ((a + 1) + 1), x.f3, x.f4, x.f5⟩ hv5))
      have HK4 := Lib.hid (HK3.out.setCell (p := ⟨g, o + p.length * 6 + 2, none⟩) (.inl HG.out) (.int .i64 (((a + 1) + 1))))
      rw [set_done] at HT4
      have HT5 := Lib.hid (T_put1 HT4.out p.length 3 (⟨a, mt (a + 1), ((a + 1) + 1), x.f3, x.f4, x.f5⟩ : S76) (⟨a, mt (a + 1), ((a + 1) + 1), (((a + 1) + 1) + 1), x.f4, x.f5⟩ : S76) (by simp) (.int .i64 ((((a + 1) + 1) + 1))) (by decide) (o + p.length * 6 + 3) rfl (fun F cs h => by obtain ⟨v5, rfl, hv5⟩ := m76_open h; exact m76_mk ⟨a, mt (a + 1), ((a + 1) + 1), (((a + 1) + 1) + 1), x.f4, x.f5⟩ hv5))
      have HK5 := Lib.hid (HK4.out.setCell (p := ⟨g, o + p.length * 6 + 3, none⟩) (.inl HG.out) (.int .i64 ((((a + 1) + 1) + 1))))
      rw [set_done] at HT5
      have HT6 := Lib.hid (T_put1 HT5.out p.length 4 (⟨a, mt (a + 1), ((a + 1) + 1), (((a + 1) + 1) + 1), x.f4, x.f5⟩ : S76) (⟨a, mt (a + 1), ((a + 1) + 1), (((a + 1) + 1) + 1), ((((a + 1) + 1) + 1) + 1) % 3 == 0, x.f5⟩ : S76) (by simp) (.bool (((((a + 1) + 1) + 1) + 1) % 3 == 0)) (by decide) (o + p.length * 6 + 4) rfl (fun F cs h => by obtain ⟨v5, rfl, hv5⟩ := m76_open h; exact m76_mk ⟨a, mt (a + 1), ((a + 1) + 1), (((a + 1) + 1) + 1), ((((a + 1) + 1) + 1) + 1) % 3 == 0, x.f5⟩ hv5))
      have HK6 := Lib.hid (HK5.out.setCell (p := ⟨g, o + p.length * 6 + 4, none⟩) (.inl HG.out) (.bool (((((a + 1) + 1) + 1) + 1) % 3 == 0)))
      rw [set_done] at HT6
      go_wp2_with fail
      obtain ⟨F, cs, hF, hcl, hcc, hfr, hM, hlt, hg, hback⟩ := T_inner HT6.out p.length ⟨a, mt (a + 1), ((a + 1) + 1), (((a + 1) + 1) + 1), ((((a + 1) + 1) + 1) + 1) % 3 == 0, x.f5⟩ (by simp)
      obtain ⟨v5', rfl, hv5⟩ := m76_open hM
      obtain rfl : v5' = v5 := by
        have h1 : World.cell? (World.setCell (World.setCell (World.setCell (World.setCell w1 ⟨g, o + p.length * 6 + 1, none⟩ (.string (mt (a + 1)))) ⟨g, o + p.length * 6 + 2, none⟩ (.int .i64 (((a + 1) + 1)))) ⟨g, o + p.length * 6 + 3, none⟩ (.int .i64 ((((a + 1) + 1) + 1)))) ⟨g, o + p.length * 6 + 4, none⟩ (.bool (((((a + 1) + 1) + 1) + 1) % 3 == 0))) ⟨g, o + p.length * 6 + 5, none⟩ = some v5' := hcc 5 _ rfl
        have h2 := HE5.out
        (repeat rw [World.cell?_setCell_other _ _ _ _ (by intro h; injection h with _ h; omega)] at h1)
        exact Option.some.inj (h1.symm.trans h2)
      refine (mark_Msg x.f5 ((((((a + 1) + 1) + 1) + 1) + 1)) v5' F _ (by omega) (by omega) hv5).mono ?_
      rintro e w2 ⟨rfl, hvn, hk1⟩
      have HT7 := Lib.hid (hback w2 ⟨a, mt (a + 1), ((a + 1) + 1), (((a + 1) + 1) + 1), ((((a + 1) + 1) + 1) + 1) % 3 == 0, mkMsgS (((((a + 1) + 1) + 1) + 1) + 1) x.f5⟩ hk1.kept (m76_mk ⟨a, mt (a + 1), ((a + 1) + 1), (((a + 1) + 1) + 1), ((((a + 1) + 1) + 1) + 1) % 3 == 0, mkMsgS (((((a + 1) + 1) + 1) + 1) + 1) x.f5⟩ hvn))
      have HK7 := Lib.hid (HK6.out.then_ hk1 (fun k hk => .inl (hF k hk).1))
      clear hF hcl hcc hfr hM hlt hg hback F hk1 hvn hv5 HG hx0 hf0 hx1 hf1 hx2 hf2 hx3 hf3 hx4 hf4 hx5 hf5 HE5
      rw [set_done] at HT7
      go_wp2_with fail
      go_roundw
      case rel =>
        refine ⟨p ++ [mkWat a x], q, a + cWat x, ?_, ?_, Lib.hid ⟨by omega, ?_⟩, Lib.hid (by have := HL.out; simp at this ⊢; omega), Lib.hid (by rw [HM.out]; simp [mkWatS]), ?_, ?_⟩
        · simp only [cWat]; congr 1; omega
        · simp
        · have := HA1.out; omega
        · exact HT7
        · exact HK7
      case measure => simp [intOf]; omega
/-! ### impl.News -/
def m87 : Kd S87 := Kd.iso (Kd.pair (Kd.int .i64) (tsl 9 Kd.string)) (fun x : S87 => (x.f0, x.f1))
theorem m87_open {w : World} {base : Nat} {ok : Nat → Prop} {x : S87} {cs : List Value} (h : m87.M w base ok x cs) : ∃ v1, cs = [.int .i64 x.f0, v1] ∧ T Kd.string 9 w base ok v1 x.f1 := by
  obtain ⟨c0, d0, rfl, h0, h1⟩ := h
  cases h0
  obtain ⟨v1, rfl, h1⟩ := h1
  exact ⟨v1, rfl, h1⟩
theorem m87_mk {w : World} {base : Nat} {ok : Nat → Prop} (x : S87) {v1 : Value} (h1 : T Kd.string 9 w base ok v1 x.f1) : m87.M w base ok x [.int .i64 x.f0, v1] := ⟨[.int .i64 x.f0], [v1], rfl, rfl, ⟨v1, rfl, h1⟩⟩
def cNew (x : S87) : Nat := 1 + x.f1.length
def cNewS : List S87 → Nat
  | [] => 0
  | x :: t => cNew x + cNewS t
def mkNew (k : Int) (x : S87) : S87 := ⟨k, mkStr (k + 1) x.f1⟩
def mkNewS : Int → List S87 → List S87
  | _, [] => []
  | k, x :: t => mkNew k x :: mkNewS (k + cNew x) t
theorem mkNewS_len : ∀ (k : Int) (l : List S87), (mkNewS k l).length = l.length
  | _, [] => rfl
  | k, x :: t => by simp [mkNewS, mkNewS_len (k + cNew x) t]
set_option maxRecDepth 100000 in
set_option maxHeartbeats 4000000 in
theorem mark_New (l0 : List S87) (a1 : Int) (u : Value) (ok : Nat → Prop) (w : World) (h0 : 0 ≤ a1) (hb : a1 + cNewS l0 ≤ 4611686018427387904) (hT : T m87 87 w 0 ok u l0) :
    Calls Tryd.prog 60 #[u, .int .i64 a1] w fun e w' => e = .returned (.int .i64 (a1 + cNewS l0)) ∧ T m87 87 w' 0 ok u (mkNewS a1 l0) ∧ Tch w w' ok := by
  obtain ⟨A, c, rfl, hc⟩ := T_slice hT
  have hmx := T_max hT
  have HT := Lib.hid hT
  clear hT
  go_enter Tryd.func60, Tryd.ntmps60
  go_wp2
  go_loopw [1, 5] (fun v1 v5 w' => ∃ (p q : List S87) (a : Int), v1 = .int .i64 a ∧ v5 = .int .i64 p.length ∧ Hid (0 ≤ a ∧ a + cNewS q = a1 + cNewS l0) ∧ Hid (p.length + q.length = l0.length) ∧ Hid (mkNewS a1 l0 = p ++ mkNewS a q) ∧ Hid (T m87 87 w' 0 ok (.slice A l0.length c) (p ++ q)) ∧ Hid (Tch w w' ok)) (fun _ v5 _ => l0.length - (intOf v5).toNat)
  case atStart => exact ⟨[], l0, a1, rfl, rfl, Lib.hid ⟨h0, rfl⟩, Lib.hid (by simp), Lib.hid (by simp), HT, Lib.hid (Tch.refl w ok)⟩
  case round =>
    obtain ⟨p, q, a, rfl, rfl, HA, HL, HM, HT, HK⟩ := hrel
    cases q with
    | nil =>
      have hl : p.length = l0.length := by have := HL.out; simpa using this
      have ha : a = a1 + cNewS l0 := by have := HA.out; simpa [cNewS] using this.2
      have HL2 := Lib.hid hl
      have HA2 := Lib.hid ha
      clear hl ha
      rw [HL2.out]
      go_wp2
      go_ret
      refine ⟨by rw [HA2.out]; rfl, ?_, HK.out⟩
      rw [HM.out]
      have := HT.out
      simpa [mkNewS] using this
    | cons x q =>
      have hl : p.length < l0.length := by have := HL.out; simp at this; omega
      have ha0 : 0 ≤ a := HA.out.1
      have ha1 : a + cNew x + cNewS q = a1 + cNewS l0 := by have := HA.out.2; simp only [cNewS] at this; omega
      have hn1 : 0 ≤ ((x.f1.length : Nat) : Int) := Int.natCast_nonneg _
      have ha2 : a + 1 + ((x.f1.length : Nat) : Int) ≤ 4611686018427387904 := by simp only [cNew] at ha1; omega
      have HA1 := Lib.hid ha1
      clear ha1
      obtain ⟨g, o, rfl⟩ := T_addr HT.out (by simp; omega)
      rw [show p ++ x :: q = (p ++ [x]) ++ q by simp] at HT
      obtain ⟨F, cs, hF, hcl, hcc, hfr, hM, hlt, hg, hback⟩ := T_inner HT.out p.length x (by simp)
      obtain ⟨v1, rfl, hv1⟩ := m87_open hM
      have hx0 : World.cell? wr ⟨g, o + p.length * 2, none⟩ = some (.int .i64 x.f0) := hcc 0 _ rfl
      have hf0 := hfr (o + p.length * 2)
      have hx1 : World.cell? wr ⟨g, o + p.length * 2 + 1, none⟩ = some (v1) := hcc 1 _ rfl
      have hf1 := hfr (o + p.length * 2 + 1)
      have HG := Lib.hid hg
      have HE1 := Lib.hid hx1
      clear hF hcl hcc hfr hM hlt hg hback F hv1
      have HT1 := Lib.hid (T_put1 HT.out p.length 0 (⟨x.f0, x.f1⟩ : S87) (⟨a, x.f1⟩ : S87) (by simp) (.int .i64 a) (by decide) (o + p.length * 2) rfl (fun F cs h => by obtain ⟨v1, rfl, hv1⟩ := m87_open h; exact m87_mk ⟨a, x.f1⟩ hv1))
      have HK1 := Lib.hid (HK.out.setCell (p := ⟨g, o + p.length * 2, none⟩) (.inl HG.out) (.int .i64 a))
      rw [set_done] at HT1
      go_wp2_with fail
      obtain ⟨F, cs, hF, hcl, hcc, hfr, hM, hlt, hg, hback⟩ := T_inner HT1.out p.length ⟨a, x.f1⟩ (by simp)
      obtain ⟨v1', rfl, hv1⟩ := m87_open hM
      obtain rfl : v1' = v1 := by
        have h1 : World.cell? (World.setCell wr ⟨g, o + p.length * 2, none⟩ (.int .i64 a)) ⟨g, o + p.length * 2 + 1, none⟩ = some v1' := hcc 1 _ rfl
        have h2 := HE1.out
        (repeat rw [World.cell?_setCell_other _ _ _ _ (by intro h; injection h with _ h; omega)] at h1)
        exact Option.some.inj (h1.symm.trans h2)
      refine (mark_str x.f1 ((a + 1)) v1' F _ (by omega) (by omega) hv1).mono ?_
      rintro e w1 ⟨rfl, hvn, hk1⟩
      have HT2 := Lib.hid (hback w1 ⟨a, mkStr (a + 1) x.f1⟩ hk1.kept (m87_mk ⟨a, mkStr (a + 1) x.f1⟩ hvn))
      have HK2 := Lib.hid (HK1.out.then_ hk1 (fun k hk => .inl (hF k hk).1))
      clear hF hcl hcc hfr hM hlt hg hback F hk1 hvn hv1 HG hx0 hf0 hx1 hf1 HE1
      rw [set_done] at HT2
      go_wp2_with fail
      go_roundw
      case rel =>
        refine ⟨p ++ [mkNew a x], q, a + cNew x, ?_, ?_, Lib.hid ⟨by omega, ?_⟩, Lib.hid (by have := HL.out; simp at this ⊢; omega), Lib.hid (by rw [HM.out]; simp [mkNewS]), ?_, ?_⟩
        · simp only [cNew]; congr 1; omega
        · simp
        · have := HA1.out; omega
        · exact HT2
        · exact HK2
      case measure => simp [intOf]; omega
end Go.Proofs.YtmphkhkbegihaaaDoor.Mark
