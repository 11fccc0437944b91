/- The law FnExactOpen: the functions of stores, at a store of one version at most that nothing was touched for. -/
import Derived.Test.YtbonodglnilkfaaGreatDoorPfX
import Derived.Test.YtbonodglnilkfaaGreatDoorWTab
namespace Go.Proofs.YtbonodglnilkfaaGreatDoor.Opn
open Go Go.Proofs Go.RowKit Go.Proofs.YtbonodglnilkfaaGreatDoorW.PrintWords Go.Proofs.YtbonodglnilkfaaGreatDoorW.PrintLast Go.Proofs.YtbonodglnilkfaaGreatDoor.Tree Go.Proofs.YtbonodglnilkfaaGreatDoor.Pf Go.Proofs.YtbonodglnilkfaaGreatDoor.Impl Go.Proofs.YtbonodglnilkfaaGreatDoor.Read Go.Proofs.YtbonodglnilkfaaGreatDoor.Tchs
set_option linter.unusedVariables false
set_option linter.unusedSimpArgs false
theorem cells3 {w : World} {g : Nat} {t : TypeId} {a b c : Value} (h : w.heap[g]? = some (.cells #[a, b, c] t (0, 0))) :
  w.cell? ⟨g, 0, none⟩ = some a ∧ w.cell? ⟨g, 1, none⟩ = some b ∧ w.cell? ⟨g, 2, none⟩ = some c :=
 ⟨(blk_cell h 0).trans rfl, (blk_cell h 1).trans rfl, (blk_cell h 2).trans rfl⟩
theorem cells1 {w : World} {g : Nat} {t : TypeId} {a : Value} (h : w.heap[g]? = some (.cells #[a] t (0, 0))) : w.cell? ⟨g, 0, none⟩ = some a := (blk_cell h 0).trans rfl
theorem eqSS (A B : Option Addr) (c d : Nat) (w : World) :
  Calls Tryz.prog 81 #[.slice A 0 c, .slice B 0 d] w fun e w' => e = .returned (.bool true) ∧ w' = w := by
 go_enter Tryz.func81, Tryz.ntmps81
 go_wp2_with fail
 go_loopw [5] (fun v5 wr => v5 = .int .i64 0 ∧ wr = w) (fun _ _ => 0)
 case atStart => exact ⟨rfl, rfl⟩
 case round =>
  obtain ⟨rfl, rfl⟩ := hrel
  go_wp2_with fail
  go_ret
  exact ⟨rfl, rfl⟩
theorem markSS (A : Option Addr) (c : Nat) (k : Int) (w : World) :
  Calls Tryz.prog 58 #[.slice A 0 c, .int .i64 k] w fun e w' => e = .returned (.int .i64 k) ∧ w' = w := by
 go_enter Tryz.func58, Tryz.ntmps58
 go_wp2_with fail
 go_loopw [5, 1] (fun v5 v1 wr => v5 = .int .i64 0 ∧ v1 = .int .i64 k ∧ wr = w) (fun _ _ _ => 0)
 case atStart => exact ⟨rfl, rfl, rfl⟩
 case round =>
  obtain ⟨rfl, rfl, rfl⟩ := hrel
  go_wp2_with fail
  go_ret
  exact ⟨rfl, rfl⟩
theorem heldSS (A : Option Addr) (c : Nat) (k : Int) (w : World) :
  Calls Tryz.prog 59 #[.slice A 0 c, .int .i64 k] w fun e w' => e = .returned (.int .i64 k) ∧ w' = w := by
 go_enter Tryz.func59, Tryz.ntmps59
 go_wp2_with fail
 go_loopw [5, 1] (fun v5 v1 wr => v5 = .int .i64 0 ∧ v1 = .int .i64 k ∧ wr = w) (fun _ _ _ => 0)
 case atStart => exact ⟨rfl, rfl, rfl⟩
 case round =>
  obtain ⟨rfl, rfl, rfl⟩ := hrel
  go_wp2_with fail
  go_ret
  exact ⟨rfl, rfl⟩
def mt2 : ByteArray := ⟨#[109]⟩ ++ (strOfNums [50] ++ ⟨#[]⟩)
set_option maxRecDepth 100000 in
set_option maxHeartbeats 4000000 in
theorem text2 (w : World) :
  Calls Tryz.prog 57 #[.int .i64 2] w fun e w' => e = .returned (.string mt2) ∧ Below w.heap.size w w' := by
 go_enter Tryz.func57, Tryz.ntmps57
 go_wp2_with fail
 go_loopw [0, 3] (fun v0 v3 wr => ((v0 = .int .i64 2 ∧ v3 = .string ⟨#[]⟩) ∨ (v0 = .int .i64 0 ∧ v3 = .string (strOfNums [50] ++ ⟨#[]⟩))) ∧ Below w.heap.size w wr) (fun v0 _ _ => (intOf v0).toNat)
 case atStart => exact ⟨.inl ⟨rfl, rfl⟩, Below.refl _ _⟩
 case round =>
  obtain ⟨h | h, HB⟩ := hrel
  ·obtain ⟨rfl, rfl⟩ := h
   have HB := Lib.hid HB
   have HO : (wr.alloc (.cells #[.int .u8 50] 5)).ownsRow wr.heap.size 5 1 (.slice (some ⟨wr.heap.size, 0, none⟩) 1 1) 1 (nums .u8 [50]) := ⟨rfl, .inr ⟨wr.heap.size, 1, #[.int .u8 50], rfl, Nat.le_refl _, heap_alloc_new wr _, Nat.le_refl _, by decide, rfl, rfl⟩⟩
   have hcv := own_string (P := Tryz.prog) Tryz.underlying25 Tryz.underlying5 Tryz.underlying9 HO
   have HB2 := Lib.hid (below_alloc HB.out (.cells #[.int .u8 50] 5))
   clear HO
   go_wp2_with fail
   exact ⟨⟨.inr ⟨rfl, rfl⟩, HB2.out⟩, by decide⟩
  ·obtain ⟨rfl, rfl⟩ := h
   have HB := Lib.hid HB
   go_wp2_with fail
   go_ret
   exact ⟨rfl, HB.out⟩
def VB (w : World) (g : Nat) (n : Int) (s : ByteArray) (A : Option Addr) (c : Nat) : Prop := w.heap[g]? = some (.cells #[.int .i64 n, .string s, .slice A 0 c] 63 (0, 0))
theorem eqVer (n : Int) (s : ByteArray) (A B : Option Addr) (c d : Nat) (w : World) :
  Calls Tryz.prog 56 #[.agg #[.int .i64 n, .string s, .slice A 0 c], .agg #[.int .i64 n, .string s, .slice B 0 d]] w fun e w' => e = .returned (.bool true) ∧ Below w.heap.size w w' := by
 go_enter Tryz.func56, Tryz.ntmps56
 have d1 : (n != n) = false := by simp
 have d2 : (s.toList != s.toList) = false := by simp
 go_wp2_with (first | ((with_reducible refine gate_dst (N := 2) rfl ?_); refine zbox (N := 2) (cs := #[.int .i64 n, .string s, .slice A 0 c]) (t := 63) ?_; intro g hg w1 hbox hb; have HG := Lib.hid hbox; have HB := Lib.hid hb; clear hbox hb hg) | ((with_reducible refine gate_dst (N := 3) rfl ?_); refine zbox (N := 3) (cs := #[.int .i64 n, .string s, .slice B 0 d]) (t := 63) ?_; intro g2 hg2 w2 hbox2 hb2; have HG1 := Lib.hid (blk_below HG.out hb2); have HG2 := Lib.hid hbox2; have HB2 := Lib.hid (below_step HB.out hb2); obtain ⟨x0, x1, x2⟩ := cells3 HG1.out; obtain ⟨y0, y1, y2⟩ := cells3 HG2.out; clear hbox2 hb2 hg2 HG HB) | (go_at_call 81; refine (eqSS A B c d _).mono ?_; rintro e w' ⟨rfl, rfl⟩))
 go_ret
 exact ⟨rfl, HB2.out⟩
set_option maxRecDepth 100000 in
set_option maxHeartbeats 4000000 in
theorem eqVers (n : Int) (s : ByteArray) (A B : Option Addr) (c d cg ch g h : Nat) (w : World) (HG : VB w g n s A c) (HH : VB w h n s B d) :
  Calls Tryz.prog 34 #[.slice (some ⟨g, 0, none⟩) 1 cg, .slice (some ⟨h, 0, none⟩) 1 ch] w fun e w' => e = .returned (.bool true) ∧ Below w.heap.size w w' := by
 have HG := Lib.hid HG
 have HH := Lib.hid HH
 go_enter Tryz.func34, Tryz.ntmps34
 go_wp2_with fail
 go_loopw [5] (fun v5 wr => (v5 = .int .i64 0 ∨ v5 = .int .i64 1) ∧ Below w.heap.size w wr) (fun v5 _ => 1 - (intOf v5).toNat)
 case atStart => exact ⟨.inl rfl, Below.refl _ _⟩
 case round =>
  obtain ⟨h0 | h0, HB⟩ := hrel
  ·subst h0
   have HB := Lib.hid HB
   have HG1 := Lib.hid (show VB wr g n s A c from blk_below HG.out HB.out)
   have HH1 := Lib.hid (show VB wr h n s B d from blk_below HH.out HB.out)
   obtain ⟨x0, x1, x2⟩ := cells3 HG1.out
   obtain ⟨y0, y1, y2⟩ := cells3 HH1.out
   go_wp2_with fail
   go_region_held3 (fun w' => (w'.cell? ⟨g, 0, none⟩ = some (.int .i64 n) ∧ w'.cell? ⟨g, 1, none⟩ = some (.string s) ∧ w'.cell? ⟨g, 2, none⟩ = some (.slice A 0 c)) ∧ (w'.cell? ⟨h, 0, none⟩ = some (.int .i64 n) ∧ w'.cell? ⟨h, 1, none⟩ = some (.string s) ∧ w'.cell? ⟨h, 2, none⟩ = some (.slice B 0 d))) (first | exact ⟨⟨x0, x1, x2⟩, y0, y1, y2⟩ | go_keep | exact ⟨cells3 (blk_below (blk_drew HG1.out) hb6), cells3 (blk_below (blk_drew HH1.out) hb6)⟩) (first | (go_at_call 56; refine (eqVer n s A B c d _).mono ?_; rintro e w6 ⟨rfl, hb6⟩; have HB6 := Lib.hid (below_step (below_drew HB.out) hb6)))
   go_wp2_with fail
   exact ⟨⟨.inr rfl, HB6.out⟩, by decide⟩
  ·subst h0
   have HB := Lib.hid HB
   go_wp2_with fail
   go_ret
   exact ⟨rfl, HB.out⟩
theorem eqVers0 (A B : Option Addr) (c d : Nat) (w : World) :
  Calls Tryz.prog 34 #[.slice A 0 c, .slice B 0 d] w fun e w' => e = .returned (.bool true) ∧ w' = w := by
 go_enter Tryz.func34, Tryz.ntmps34
 go_wp2_with fail
 go_loopw [5] (fun v5 wr => v5 = .int .i64 0 ∧ wr = w) (fun _ _ => 0)
 case atStart => exact ⟨rfl, rfl⟩
 case round =>
  obtain ⟨rfl, rfl⟩ := hrel
  go_wp2_with fail
  go_ret
  exact ⟨rfl, rfl⟩
theorem eqSto (A B : Option Addr) (m c d : Nat) (w : World) (HV : ∀ w1, Below w.heap.size w w1 → Calls Tryz.prog 34 #[.slice A m c, .slice B m d] w1 fun e w' => e = .returned (.bool true) ∧ Below w1.heap.size w1 w') :
  Calls Tryz.prog 14 #[.agg #[.slice A m c], .agg #[.slice B m d]] w fun e w' => e = .returned (.bool true) ∧ Below w.heap.size w w' := by
 have HV := Lib.hid HV
 go_enter Tryz.func14, Tryz.ntmps14
 go_wp2_with (first | ((with_reducible refine gate_dst (N := 2) rfl ?_); refine zbox (N := 2) (cs := #[.slice A m c]) (t := 32) ?_; intro g hg w1 hbox hb; have HG := Lib.hid hbox; have HB := Lib.hid hb; clear hbox hb hg) | ((with_reducible refine gate_dst (N := 3) rfl ?_); refine zbox (N := 3) (cs := #[.slice B m d]) (t := 32) ?_; intro g2 hg2 w2 hbox2 hb2; have HB2 := Lib.hid (below_step HB.out hb2); have x0 := cells1 (blk_below HG.out hb2); have y0 := cells1 hbox2; clear hbox2 hb2 hg2 HG HB) | (go_at_call 34; refine (HV.out _ HB2.out).mono ?_; rintro e w' ⟨rfl, hb3⟩; have HB3 := Lib.hid (below_step HB2.out hb3); clear hb3))
 go_ret
 exact ⟨rfl, HB3.out⟩
set_option maxRecDepth 100000 in
set_option maxHeartbeats 4000000 in
theorem markVers (n : Int) (s : ByteArray) (A : Option Addr) (c cg g : Nat) (w : World) (HG : VB w g n s A c) :
  Calls Tryz.prog 35 #[.slice (some ⟨g, 0, none⟩) 1 cg, .int .i64 1] w fun e w' => e = .returned (.int .i64 3) ∧ VB w' g 1 mt2 A c ∧ Tch w w' (fun k => k = g) := by
 have HG := Lib.hid HG
 go_enter Tryz.func35, Tryz.ntmps35
 go_wp2_with fail
 go_loopw [5, 1] (fun v5 v1 wr => (v5 = .int .i64 0 ∧ v1 = .int .i64 1 ∧ wr = w) ∨ (v5 = .int .i64 1 ∧ v1 = .int .i64 3 ∧ VB wr g 1 mt2 A c ∧ Tch w wr (fun k => k = g))) (fun v5 _ _ => 1 - (intOf v5).toNat)
 case atStart => exact .inl ⟨rfl, rfl, rfl⟩
 case round =>
  obtain ⟨rfl, rfl, rfl⟩ | ⟨rfl, rfl, HG1, HT⟩ := hrel
  ·obtain ⟨x0, x1, x2⟩ := cells3 HG.out
   have f0 := blk_frozen (show wr.heap[g]? = some (.cells #[.int .i64 n, .string s, .slice A 0 c] 63 (0, 0)) from HG.out) 0
   have HG2 := Lib.hid (show VB (wr.setCell ⟨g, 0, none⟩ (.int .i64 1)) g 1 s A c from blk_put HG.out 0 _ rfl)
   have HT2 := Lib.hid (Tch.setCell (Tch.refl wr (fun k => k = g)) (p := ⟨g, 0, none⟩) (.inl rfl) (.int .i64 1))
   go_wp2_with fail
   refine (text2 _).mono ?_
   rintro e w3 ⟨rfl, hb3⟩
   have HG3 := Lib.hid (show VB w3 g 1 s A c from blk_below HG2.out hb3)
   have HT3 := Lib.hid (Tch.below HT2.out hb3)
   clear x0 x1 x2 f0 hb3
   obtain ⟨x0, x1, x2⟩ := cells3 HG3.out
   have f1 := blk_frozen (show w3.heap[g]? = some (.cells #[.int .i64 1, .string s, .slice A 0 c] 63 (0, 0)) from HG3.out) 1
   have HG4 := Lib.hid (show VB (w3.setCell ⟨g, 1, none⟩ (.string mt2)) g 1 mt2 A c from blk_put HG3.out 1 _ rfl)
   have HT4 := Lib.hid (Tch.setCell HT3.out (p := ⟨g, 1, none⟩) (.inl rfl) (.string mt2))
   obtain ⟨y0, y1, y2⟩ := cells3 HG4.out
   go_wp2_with (first | (go_at_call 58; refine (markSS A c 3 _).mono ?_; rintro e w' ⟨rfl, rfl⟩))
   exact ⟨.inr ⟨rfl, rfl, HG4.out, HT4.out⟩, by decide⟩
  ·have HG1 := Lib.hid HG1
   have HT := Lib.hid HT
   go_wp2_with fail
   go_ret
   exact ⟨rfl, HG1.out, HT.out⟩
theorem markVers0 (A : Option Addr) (c : Nat) (k : Int) (w : World) :
  Calls Tryz.prog 35 #[.slice A 0 c, .int .i64 k] w fun e w' => e = .returned (.int .i64 k) ∧ w' = w := by
 go_enter Tryz.func35, Tryz.ntmps35
 go_wp2_with fail
 go_loopw [5, 1] (fun v5 v1 wr => v5 = .int .i64 0 ∧ v1 = .int .i64 k ∧ wr = w) (fun _ _ _ => 0)
 case atStart => exact ⟨rfl, rfl, rfl⟩
 case round =>
  obtain ⟨rfl, rfl, rfl⟩ := hrel
  go_wp2_with fail
  go_ret
  exact ⟨rfl, rfl⟩
set_option maxRecDepth 100000 in
set_option maxHeartbeats 4000000 in
theorem heldVers (A : Option Addr) (c cg g : Nat) (w : World) (HG : VB w g 1 mt2 A c) :
  Calls Tryz.prog 36 #[.slice (some ⟨g, 0, none⟩) 1 cg, .int .i64 1] w fun e w' => e = .returned (.int .i64 3) ∧ Below w.heap.size w w' := by
 have HG := Lib.hid HG
 go_enter Tryz.func36, Tryz.ntmps36
 have d2 : (mt2.toList != mt2.toList) = false := by simp
 go_wp2_with fail
 go_loopw [5, 1] (fun v5 v1 wr => ((v5 = .int .i64 0 ∧ v1 = .int .i64 1) ∨ (v5 = .int .i64 1 ∧ v1 = .int .i64 3)) ∧ Below w.heap.size w wr) (fun v5 _ _ => 1 - (intOf v5).toNat)
 case atStart => exact ⟨.inl ⟨rfl, rfl⟩, Below.refl _ _⟩
 case round =>
  obtain ⟨h | h, HB⟩ := hrel
  ·obtain ⟨rfl, rfl⟩ := h
   have HB := Lib.hid HB
   have HG1 := Lib.hid (show VB wr g 1 mt2 A c from blk_below HG.out HB.out)
   obtain ⟨x0, x1, x2⟩ := cells3 HG1.out
   go_wp2_with fail
   go_region_held3 (fun w' => w'.cell? ⟨g, 1, none⟩ = some (.string mt2)) (first | exact x1 | go_keep | exact (cells3 (blk_below (blk_drew HG1.out) hb6)).2.1) (first | (go_at_call 57; refine (text2 _).mono ?_; rintro e w6 ⟨rfl, hb6⟩; have HB6 := Lib.hid (below_step (below_drew HB.out) hb6); have HG6 := Lib.hid (show VB w6 g 1 mt2 A c from blk_below (blk_drew HG1.out) hb6)))
   clear x0 x1 x2
   obtain ⟨x0, x1, x2⟩ := cells3 HG6.out
   go_wp2_with (first | (go_at_call 59; refine (heldSS A c 3 _).mono ?_; rintro e w' ⟨rfl, rfl⟩))
   exact ⟨⟨.inr ⟨rfl, rfl⟩, HB6.out⟩, by decide⟩
  ·obtain ⟨rfl, rfl⟩ := h
   have HB := Lib.hid HB
   go_wp2_with fail
   go_ret
   exact ⟨rfl, HB.out⟩
theorem heldVers0 (A : Option Addr) (c : Nat) (k : Int) (w : World) :
  Calls Tryz.prog 36 #[.slice A 0 c, .int .i64 k] w fun e w' => e = .returned (.int .i64 k) ∧ w' = w := by
 go_enter Tryz.func36, Tryz.ntmps36
 go_wp2_with fail
 go_loopw [5, 1] (fun v5 v1 wr => v5 = .int .i64 0 ∧ v1 = .int .i64 k ∧ wr = w) (fun _ _ _ => 0)
 case atStart => exact ⟨rfl, rfl, rfl⟩
 case round =>
  obtain ⟨rfl, rfl, rfl⟩ := hrel
  go_wp2_with fail
  go_ret
  exact ⟨rfl, rfl⟩
theorem markSto (A : Option Addr) (m c : Nat) (k k' : Int) (w : World) (S : Nat → Prop) (Q : World → Prop) (HV : ∀ w1, Below w.heap.size w w1 → Calls Tryz.prog 35 #[.slice A m c, .int .i64 k] w1 fun e w' => e = .returned (.int .i64 k') ∧ Q w' ∧ Tch w1 w' S) :
  Calls Tryz.prog 15 #[.agg #[.slice A m c], .int .i64 k] w fun e w' => e = .returned (.int .i64 k') ∧ Q w' ∧ Tch w w' S := by
 have HV := Lib.hid HV
 go_enter Tryz.func15, Tryz.ntmps15
 go_wp2_with (first | ((with_reducible refine gate_dst (N := 2) rfl ?_); refine zbox (N := 2) (cs := #[.slice A m c]) (t := 32) ?_; intro g hg w1 hbox hb; have HB := Lib.hid hb; have x0 := cells1 hbox; clear hbox hb hg) | (go_at_call 35; refine (HV.out _ HB.out).mono ?_; rintro e w' ⟨rfl, hq, ht3⟩; have HQ := Lib.hid hq; have HT := Lib.hid ((Tch.of_below HB.out S).then_ ht3 (fun _ h => .inl h)); clear ht3 hq))
 go_ret
 exact ⟨rfl, HQ.out, HT.out⟩
theorem heldSto (A : Option Addr) (m c : Nat) (k : Int) (hk : 0 ≤ k) (w : World) (HV : ∀ w1, Below w.heap.size w w1 → Calls Tryz.prog 36 #[.slice A m c, .int .i64 1] w1 fun e w' => e = .returned (.int .i64 k) ∧ Below w1.heap.size w1 w') :
  Calls Tryz.prog 16 #[.agg #[.slice A m c], .int .i64 1] w fun e w' => e = .returned (.int .i64 k) ∧ Below w.heap.size w w' := by
 have HV := Lib.hid HV
 have d1 : decide (k < 0) = false := decide_eq_false (by omega)
 go_enter Tryz.func16, Tryz.ntmps16
 go_wp2_with (first | ((with_reducible refine gate_dst (N := 2) rfl ?_); refine zbox (N := 2) (cs := #[.slice A m c]) (t := 32) ?_; intro g hg w1 hbox hb; have HB := Lib.hid hb; have x0 := cells1 hbox; clear hbox hb hg) | (go_at_call 36; refine (HV.out _ HB.out).mono ?_; rintro e w' ⟨rfl, hb3⟩; have HB3 := Lib.hid (below_step HB.out hb3); clear hb3))
 go_ret
 exact ⟨rfl, HB3.out⟩
def SO (s : ByteArray) (B : Nat) (w : World) (u : Value) : Prop :=
 (codeF s = 0 → ∃ g c A d, u = .slice (some ⟨g, 0, none⟩) 1 c ∧ B ≤ g ∧ VB w g 0 (ctx (treeF s)) A d) ∧ (codeF s ≠ 0 → u = .slice none 0 0)
set_option maxHeartbeats 4000000 in
theorem openI (s : ByteArray) (w : World) (hT : Lib.Utf8Tabs 0 1 w) (hE : EV w) (hg : 5 < w.heap.size ∧ 1 < w.heap.size) (hp : POW w w) :
  Calls Tryz.prog 13 #[.string s] w fun e w' => ∃ u, e = .returned (.tuple #[.agg #[u], .int .i64 (codeF s)]) ∧ SO s w.heap.size w' u ∧ Below w.heap.size w w' := by
 have HB0 := Lib.hid (below_alloc (Below.refl w.heap.size w) (.cells #[.slice none 0 0] 32))
 have HR := Lib.hid (blk_new w (.cells #[.slice none 0 0] 32))
 have HC := Lib.hid (canonI s (w.alloc (.cells #[.slice none 0 0] 32)) (tabs_tch hT (Tch.of_below HB0.out (fun _ => False)) (fun h => h) (fun h => h)) (hE.tch (Tch.of_below HB0.out (fun _ => False)) (fun h => h)) ⟨by have := HB0.out.size; omega, by have := HB0.out.size; omega⟩ (fun w' h' => hp w' (HB0.out.trans (h'.mono HB0.out.size))))
 clear hT hE hg hp
 go_enter Tryz.func13, Tryz.ntmps13
 go_wp2_with fail
 refine HC.out.mono ?_
 rintro e w2 ⟨rfl, hb2⟩
 have HR2 := Lib.hid (show w2.heap[w.heap.size]? = some (.cells #[.slice none 0 0] 32 (0, 0)) from blk_below HR.out hb2)
 have HB2 := Lib.hid (below_then HB0.out HB0.out.size hb2)
 clear hb2
 by_cases h0 : codeF s = 0
 ·have HF := Lib.hid h0
  rw [canF_ok h0]
  have HS := Lib.hid (fun (u : Value) (B : Nat) (W : World) (h : ∃ g c A d, u = .slice (some ⟨g, 0, none⟩) 1 c ∧ B ≤ g ∧ VB W g 0 (ctx (treeF s)) A d) => (show SO s B W u from ⟨fun _ => h, fun hn => absurd h0 hn⟩))
  generalize ctx (treeF s) = y at HS ⊢
  clear h0
  have HV := Lib.hid (blk_new w2 (.cells #[.int .i64 0, .string y, .slice none 0 0] 63))
  have HR3 := Lib.hid (blk_alloc HR2.out (.cells #[.int .i64 0, .string y, .slice none 0 0] 63))
  have HB3 := Lib.hid (below_step HB2.out (below_alloc (Below.refl w2.heap.size w2) (.cells #[.int .i64 0, .string y, .slice none 0 0] 63)))
  have x0 := cells1 HR3.out
  have f0 := blk_frozen HR3.out 0
  have HR4 := Lib.hid (blk_put (cs' := #[.slice (some ⟨w2.heap.size, 0, none⟩) 1 1]) HR3.out 0 (.slice (some ⟨w2.heap.size, 0, none⟩) 1 1) rfl)
  have HV4 := Lib.hid (blk_far HV.out (p := ⟨w.heap.size, 0, none⟩) (by have := HB2.out.size; have := blk_lt HR2.out; show w2.heap.size ≠ w.heap.size; omega) (.slice (some ⟨w2.heap.size, 0, none⟩) 1 1))
  have HB4 := Lib.hid (below_set HB3.out (g := w.heap.size) (j := 0) (v := .slice (some ⟨w2.heap.size, 0, none⟩) 1 1) (Nat.le_refl _))
  have y0 := cells1 HR4.out
  go_wp2_with fail
  refine bodyPost_ret (v := .tuple #[.agg #[.slice (some ⟨w2.heap.size, 0, none⟩) 1 1], .int .i64 0]) (by simp [results, Tryz.results13, go_sem, y0]) rfl ⟨_, by rw [HF.out], HS.out _ _ _ ⟨_, _, _, _, rfl, by have := HB2.out.size; omega, HV4.out⟩, HB4.out⟩
 ·have hF := canF_no rfl h0
  have d1 : (codeF s != 0) = true := by simpa using h0
  have HS := Lib.hid (fun (B : Nat) (W : World) => (show SO s B W (.slice none 0 0) from ⟨fun h => absurd h h0, fun _ => rfl⟩))
  rw [hF]
  generalize hcd : codeF s = cd at d1 hF
  have HCD := Lib.hid hcd
  have x0 := cells1 HR2.out
  have f0 := blk_frozen HR2.out 0
  have HR4 := Lib.hid (blk_put (cs' := #[.slice none 0 0]) HR2.out 0 (.slice none 0 0) rfl)
  have HB4 := Lib.hid (below_set HB2.out (g := w.heap.size) (j := 0) (v := .slice none 0 0) (Nat.le_refl _))
  clear hF hcd h0
  have y0 := cells1 HR4.out
  go_wp2_with fail
  refine bodyPost_ret (v := .tuple #[.agg #[.slice none 0 0], .int .i64 cd]) (by simp [results, Tryz.results13, go_sem, y0]) rfl ⟨_, by rw [HCD.out], HS.out _ _, HB4.out⟩
set_option maxHeartbeats 4000000 in
theorem openS (s : ByteArray) (w : World) :
  Calls Tryz.prog 12 #[.string s] w fun e w' => ∃ u, e = .returned (.tuple #[.agg #[u], .int .i64 (codeF s)]) ∧ SO s w.heap.size w' u ∧ Below w.heap.size w w' := by
 have HB0 := Lib.hid (below_alloc (Below.refl w.heap.size w) (.cells #[.slice none 0 0] 32))
 have HR := Lib.hid (blk_new w (.cells #[.slice none 0 0] 32))
 go_enter Tryz.func12, Tryz.ntmps12
 go_wp2_with fail
 refine (specCanon s _).mono ?_
 rintro e w2 ⟨rfl, hb2⟩
 have HR2 := Lib.hid (show w2.heap[w.heap.size]? = some (.cells #[.slice none 0 0] 32 (0, 0)) from blk_below HR.out hb2)
 have HB2 := Lib.hid (below_then HB0.out HB0.out.size hb2)
 clear hb2
 by_cases h0 : codeF s = 0
 ·have HF := Lib.hid h0
  rw [canF_ok h0]
  have HS := Lib.hid (fun (u : Value) (B : Nat) (W : World) (h : ∃ g c A d, u = .slice (some ⟨g, 0, none⟩) 1 c ∧ B ≤ g ∧ VB W g 0 (ctx (treeF s)) A d) => (show SO s B W u from ⟨fun _ => h, fun hn => absurd h0 hn⟩))
  generalize ctx (treeF s) = y at HS ⊢
  clear h0
  have HR3 := Lib.hid (blk_alloc HR2.out (.cells #[] 9))
  have HB3 := Lib.hid (below_step HB2.out (below_alloc (Below.refl w2.heap.size w2) (.cells #[] 9)))
  have hz : (w2.alloc (.cells #[] 9)).heap.size = w2.heap.size + 1 := World.size_alloc _ _
  have HV := Lib.hid (blk_new (w2.alloc (.cells #[] 9)) (.cells #[.int .i64 0, .string y, .slice (some ⟨w2.heap.size, 0, none⟩) 0 0] 63))
  rw [hz] at HV
  have HR4 := Lib.hid (blk_alloc HR3.out (.cells #[.int .i64 0, .string y, .slice (some ⟨w2.heap.size, 0, none⟩) 0 0] 63))
  have HB4 := Lib.hid (below_alloc HB3.out (.cells #[.int .i64 0, .string y, .slice (some ⟨w2.heap.size, 0, none⟩) 0 0] 63))
  have x0 := cells1 HR4.out
  have f0 := blk_frozen HR4.out 0
  have HR5 := Lib.hid (blk_put (cs' := #[.slice (some ⟨w2.heap.size + 1, 0, none⟩) 1 1]) HR4.out 0 (.slice (some ⟨w2.heap.size + 1, 0, none⟩) 1 1) rfl)
  have HV5 := Lib.hid (blk_far HV.out (p := ⟨w.heap.size, 0, none⟩) (by have := blk_lt HR2.out; show w2.heap.size + 1 ≠ w.heap.size; omega) (.slice (some ⟨w2.heap.size + 1, 0, none⟩) 1 1))
  have HB5 := Lib.hid (below_set HB4.out (g := w.heap.size) (j := 0) (v := .slice (some ⟨w2.heap.size + 1, 0, none⟩) 1 1) (Nat.le_refl _))
  clear hz
  have y0 := cells1 HR5.out
  go_wp2_with fail
  refine bodyPost_ret (v := .tuple #[.agg #[.slice (some ⟨w2.heap.size + 1, 0, none⟩) 1 1], .int .i64 0]) (by simp [results, Tryz.results12, go_sem, y0]) rfl ⟨_, by rw [HF.out], HS.out _ _ _ ⟨_, _, _, _, rfl, by have := HB2.out.size; omega, HV5.out⟩, HB5.out⟩
 ·have hF := canF_no rfl h0
  have d1 : (codeF s != 0) = true := by simpa using h0
  have HS := Lib.hid (fun (B : Nat) (W : World) => (show SO s B W (.slice none 0 0) from ⟨fun h => absurd h h0, fun _ => rfl⟩))
  rw [hF]
  generalize hcd : codeF s = cd at d1 hF
  have HCD := Lib.hid hcd
  have x0 := cells1 HR2.out
  have f0 := blk_frozen HR2.out 0
  have HR4 := Lib.hid (blk_put (cs' := #[.slice none 0 0]) HR2.out 0 (.slice none 0 0) rfl)
  have HB4 := Lib.hid (below_set HB2.out (g := w.heap.size) (j := 0) (v := .slice none 0 0) (Nat.le_refl _))
  clear hF hcd h0
  have y0 := cells1 HR4.out
  go_wp2_with fail
  refine bodyPost_ret (v := .tuple #[.agg #[.slice none 0 0], .int .i64 cd]) (by simp [results, Tryz.results12, go_sem, y0]) rfl ⟨_, by rw [HCD.out], HS.out _ _, HB4.out⟩
def SE (s : ByteArray) (B E : Nat) (w : World) (u : Value) : Prop :=
 (codeF s = 0 → ∃ g c A d, u = .slice (some ⟨g, 0, none⟩) 1 c ∧ B ≤ g ∧ g < E ∧ VB w g 0 (ctx (treeF s)) A d) ∧ (codeF s ≠ 0 → u = .slice none 0 0)
def HE (s : ByteArray) (w : World) (u : Value) : Prop :=
 (codeF s = 0 → ∃ g c A d, u = .slice (some ⟨g, 0, none⟩) 1 c ∧ VB w g 1 mt2 A d) ∧ (codeF s ≠ 0 → u = .slice none 0 0)
def mmF (s : ByteArray) : Nat := if codeF s = 0 then 1 else 0
def kkF (s : ByteArray) : Int := if codeF s = 0 then 3 else 1
theorem kk_pos (s : ByteArray) : 0 ≤ kkF s := by unfold kkF; split <;> decide
section
variable {s : ByteArray} {B B2 E E2 : Nat} {w w1 : World} {u v : Value}
theorem SO.se (h : SO s B w u) : SE s B w.heap.size w u := ⟨fun h0 => by
 obtain ⟨g, c, A, d, h1, h2, h3⟩ := h.1 h0
 exact ⟨g, c, A, d, h1, h2, blk_lt h3, h3⟩, h.2⟩
theorem SE.val (h : SE s B E w u) : ∃ A c, u = .slice A (mmF s) c := by
 by_cases h0 : codeF s = 0
 ·obtain ⟨g, c, A, d, h1, _⟩ := h.1 h0
  exact ⟨_, _, by unfold mmF; rw [if_pos h0]; exact h1⟩
 ·exact ⟨_, _, by unfold mmF; rw [if_neg h0]; exact h.2 h0⟩
theorem SE.below (h : SE s B E w u) (hb : Below w.heap.size w w1) : SE s B E w1 u := ⟨fun h0 => by
 obtain ⟨g, c, A, d, h1, h2, h3, h4⟩ := h.1 h0
 exact ⟨g, c, A, d, h1, h2, h3, blk_below h4 hb⟩, h.2⟩
theorem SE.tch {S : Nat → Prop} (h : SE s B E w u) (ht : Tch w w1 S) (hs : ∀ k, B ≤ k → k < E → ¬ S k) : SE s B E w1 u := ⟨fun h0 => by
 obtain ⟨g, c, A, d, h1, h2, h3, h4⟩ := h.1 h0
 exact ⟨g, c, A, d, h1, h2, h3, blk_kept h4 ht.kept (hs g h2 h3)⟩, h.2⟩
theorem HE.below (h : HE s w u) (hb : Below w.heap.size w w1) : HE s w1 u := ⟨fun h0 => by
 obtain ⟨g, c, A, d, h1, h4⟩ := h.1 h0
 exact ⟨g, c, A, d, h1, blk_below h4 hb⟩, h.2⟩
theorem same_of (h : SE s B E w u) (k : SE s B2 E2 w v) : Calls Tryz.prog 14 #[.agg #[u], .agg #[v]] w fun e w' => e = .returned (.bool true) ∧ Below w.heap.size w w' := by
 by_cases h0 : codeF s = 0
 ·obtain ⟨g, c, A, d, rfl, _, _, h4⟩ := h.1 h0
  obtain ⟨g2, c2, A2, d2, rfl, _, _, k4⟩ := k.1 h0
  exact eqSto _ _ _ _ _ _ fun w1 hb => eqVers 0 _ A A2 d d2 c c2 g g2 w1 (blk_below h4 hb) (blk_below k4 hb)
 ·obtain rfl := h.2 h0
  obtain rfl := k.2 h0
  exact eqSto _ _ _ _ _ _ fun w1 hb => (eqVers0 _ _ _ _ w1).mono fun e w' ⟨h1, h2⟩ => ⟨h1, h2 ▸ Below.refl _ _⟩
theorem mark_of (h : SE s B E w u) : Calls Tryz.prog 15 #[.agg #[u], .int .i64 1] w fun e w' => e = .returned (.int .i64 (kkF s)) ∧ HE s w' u ∧ Tch w w' (fun k => B ≤ k ∧ k < E) := by
 by_cases h0 : codeF s = 0
 ·obtain ⟨g, c, A, d, rfl, h2, h3, h4⟩ := h.1 h0
  have hk : kkF s = 3 := by unfold kkF; rw [if_pos h0]
  rw [hk]
  exact markSto _ _ _ _ _ _ _ _ fun w1 hb => (markVers 0 _ A d c g w1 (blk_below h4 hb)).mono fun e w' ⟨k1, k2, k3⟩ => ⟨k1, ⟨fun _ => ⟨_, _, _, _, rfl, k2⟩, fun hn => absurd h0 hn⟩, k3.mono (fun k hk => by subst hk; exact ⟨h2, h3⟩)⟩
 ·obtain rfl := h.2 h0
  have hk : kkF s = 1 := by unfold kkF; rw [if_neg h0]
  rw [hk]
  exact markSto _ _ _ _ _ _ _ _ fun w1 hb => (markVers0 _ _ _ w1).mono fun e w' ⟨k1, k2⟩ => ⟨k1, ⟨fun hn => absurd hn h0, fun _ => rfl⟩, k2 ▸ Tch.refl _ _⟩
theorem held_of (h : HE s w u) : Calls Tryz.prog 16 #[.agg #[u], .int .i64 1] w fun e w' => e = .returned (.int .i64 (kkF s)) ∧ Below w.heap.size w w' := by
 by_cases h0 : codeF s = 0
 ·obtain ⟨g, c, A, d, rfl, h4⟩ := h.1 h0
  have hk : kkF s = 3 := by unfold kkF; rw [if_pos h0]
  rw [hk]
  exact heldSto _ _ _ _ (by decide) _ fun w1 hb => heldVers A d c g w1 (blk_below h4 hb)
 ·obtain rfl := h.2 h0
  have hk : kkF s = 1 := by unfold kkF; rw [if_neg h0]
  rw [hk]
  exact heldSto _ _ _ _ (by decide) _ fun w1 hb => (heldVers0 _ _ _ w1).mono fun e w' ⟨k1, k2⟩ => ⟨k1, k2 ▸ Below.refl _ _⟩
end
set_option maxRecDepth 100000 in
set_option maxHeartbeats 4000000 in
theorem law_open (s : ByteArray) (w : World) (hm : s.size ≤ 140737488351232) (hT : Lib.Utf8Tabs 0 1 w) (hE : EV w) (hg : 5 < w.heap.size ∧ 1 < w.heap.size) (hp : POW w w) :
  Calls Tryz.prog 5 #[.string s] w fun e w' => e = .returned (.bool true) ∧ Below w.heap.size w w' := by
 have HI := Lib.hid (fun (w1 : World) (hb1 : Below w.heap.size w w1) => openI s w1 (tabs_tch hT (Tch.of_below hb1 (fun _ => False)) (fun h => h) (fun h => h)) (hE.tch (Tch.of_below hb1 (fun _ => False)) (fun h => h)) ⟨by have := hb1.size; omega, by have := hb1.size; omega⟩ (fun w' h' => hp w' (hb1.trans (h'.mono hb1.size))))
 clear hT hE hg hp
 go_enter Tryz.func5, Tryz.ntmps5
 by_cases h1 : (1048576 : Int) < (s.size : Int)
 ·have d1 : decide ((1048576 : Int) < (s.size : Int)) = true := decide_eq_true h1
  go_wp2_with fail
  go_ret
  exact ⟨rfl, Below.refl _ _⟩
 ·have d1 : decide ((1048576 : Int) < (s.size : Int)) = false := decide_eq_false h1
  go_wp2_with fail
  refine (openS s w).mono ?_
  rintro e w1 ⟨u1, rfl, hs1, hb1⟩
  have HS1 := Lib.hid hs1.se
  have HB1 := Lib.hid hb1
  obtain ⟨A1, c1, rfl⟩ := hs1.se.val
  clear hs1 hb1
  have hx := below_alloc (Below.refl w1.heap.size w1) (.cells #[.slice A1 (mmF s) c1] 32)
  have HX1 := Lib.hid (blk_new w1 (.cells #[.slice A1 (mmF s) c1] 32))
  have HS2 := Lib.hid (HS1.out.below hx)
  have HB2 := Lib.hid (below_step HB1.out hx)
  have hz : (w1.alloc (.cells #[.slice A1 (mmF s) c1] 32)).heap.size = w1.heap.size + 1 := World.size_alloc _ _
  have HZ2 := Lib.hid hz
  have HL1 := Lib.hid HB1.out.size
  clear hx hz
  go_wp2_with fail
  refine (HI.out _ HB2.out).mono ?_
  rintro e w2 ⟨u2, rfl, hs2, hb2⟩
  have hs := hs2.se
  rw [HZ2.out] at hs
  have HG2 := Lib.hid hs
  have HX2 := Lib.hid (blk_below HX1.out hb2)
  have HS3 := Lib.hid (HS2.out.below hb2)
  have HB3 := Lib.hid (below_step HB2.out hb2)
  have HL2 := Lib.hid (show w1.heap.size + 1 ≤ w2.heap.size from by have := hb2.size; have := HZ2.out; omega)
  obtain ⟨A2, c2, rfl⟩ := hs2.se.val
  clear hs2 hb2 hs
  have hx := below_alloc (Below.refl w2.heap.size w2) (.cells #[.slice A2 (mmF s) c2] 32)
  have HX3 := Lib.hid (blk_below HX2.out hx)
  have HY3 := Lib.hid (blk_new w2 (.cells #[.slice A2 (mmF s) c2] 32))
  have HS4 := Lib.hid (HS3.out.below hx)
  have HG4 := Lib.hid (HG2.out.below hx)
  have HB4 := Lib.hid (below_step HB3.out hx)
  have x0 := cells1 HX3.out
  have y0 := cells1 HY3.out
  have d2 : (codeF s != codeF s) = false := by simp
  clear hx HS1 HB1 HX1 HS2 HB2 HX2 HS3 HB3 HG2 HZ2
  go_wp2_with (first | (go_at_call 14; refine (same_of HG4.out HS4.out).mono ?_; rintro e w3 ⟨rfl, hb3⟩; have HX5 := Lib.hid (blk_below HX3.out hb3); have HY5 := Lib.hid (blk_below HY3.out hb3); have HS5 := Lib.hid (HS4.out.below hb3); have HG5 := Lib.hid (HG4.out.below hb3); have HB5 := Lib.hid (below_step HB4.out hb3); clear hb3 x0 y0 HX3 HY3 HS4 HG4 HB4; have x0 := cells1 HX5.out; have y0 := cells1 HY5.out))
  refine (mark_of HG5.out).mono ?_
  rintro e w4 ⟨rfl, he4, ht4⟩
  have HS6 := Lib.hid (HS5.out.tch ht4 (fun k _ h2 h3 => by omega))
  have HX6 := Lib.hid (blk_kept HX5.out ht4.kept (by omega))
  have HY6 := Lib.hid (blk_kept HY5.out ht4.kept (by omega))
  have HH6 := Lib.hid he4
  have HB6 := Lib.hid (HB5.out.trans (Tch.to_below ht4 (B := w.heap.size) HB5.out.size (fun k hk => by have := HL1.out; omega)))
  have d3 : decide (kkF s < 0) = false := decide_eq_false (by have := kk_pos s; omega)
  have d4 : (kkF s != kkF s) = false := by simp
  clear he4 ht4 x0 y0 HX5 HY5 HS5 HG5 HB5
  have x0 := cells1 HX6.out
  have y0 := cells1 HY6.out
  go_wp2_with fail
  refine (held_of HH6.out).mono ?_
  rintro e w5 ⟨rfl, hb5⟩
  have HS7 := Lib.hid (HS6.out.below hb5)
  have HX7 := Lib.hid (blk_below HX6.out hb5)
  have HY7 := Lib.hid (blk_below HY6.out hb5)
  have HH7 := Lib.hid (HH6.out.below hb5)
  have HB7 := Lib.hid (below_step HB6.out hb5)
  clear hb5 x0 y0 HX6 HY6 HS6 HH6 HB6
  go_wp2_with fail
  refine (HI.out _ HB7.out).mono ?_
  rintro e w6 ⟨u3, rfl, hs3, hb6⟩
  obtain ⟨A3, c3, rfl⟩ := hs3.se.val
  have hx := below_alloc (Below.refl w6.heap.size w6) (.cells #[.slice A3 (mmF s) c3] 32)
  have HS8 := Lib.hid ((HS7.out.below hb6).below hx)
  have HX8 := Lib.hid (blk_below (blk_below HX7.out hb6) hx)
  have HY8 := Lib.hid (blk_below (blk_below HY7.out hb6) hx)
  have HH8 := Lib.hid ((HH7.out.below hb6).below hx)
  have HB8 := Lib.hid (below_step (below_step HB7.out hb6) hx)
  have HT8 := Lib.hid (hs3.se.below hx)
  have HZ8 := Lib.hid (blk_new w6 (.cells #[.slice A3 (mmF s) c3] 32))
  clear hb6 hx hs3 HX7 HY7 HS7 HH7 HB7
  have x0 := cells1 HX8.out
  have z0 := cells1 HZ8.out
  go_wp2_with (first | (go_at_call 14; refine (same_of HT8.out HS8.out).mono ?_; rintro e w7 ⟨rfl, hb7⟩; have HY9 := Lib.hid (blk_below HY8.out hb7); have HH9 := Lib.hid (HH8.out.below hb7); have HB9 := Lib.hid (below_step HB8.out hb7); clear hb7 x0 z0 HX8 HY8 HS8 HH8 HB8; have y0 := cells1 HY9.out))
  refine (held_of HH9.out).mono ?_
  rintro e w8 ⟨rfl, hb8⟩
  have HBA := Lib.hid (below_step HB9.out hb8)
  clear hb8
  go_wp2_with fail
  go_ret
  exact ⟨rfl, HBA.out⟩
end Go.Proofs.YtbonodglnilkfaaGreatDoor.Opn
