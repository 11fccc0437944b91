/- watchOf: contracts by hand of the closure, slices.IndexFunc and impl.watchOf. -/
import Derived.Test.YtmphkhkbegihaaaDoorLawB
namespace Go.Proofs.YtmphkhkbegihaaaDoor.Find
open Go Go.RowKit Go.Proofs.YtmphkhkbegihaaaDoor.PHub Go.Proofs.YtmphkhkbegihaaaDoorW.PrintWords Go.Proofs.YtmphkhkbegihaaaDoor.Tree Go.Proofs.YtmphkhkbegihaaaDoor.Mark Go.Proofs.YtmphkhkbegihaaaDoor.To Go.Proofs.YtmphkhkbegihaaaDoor.Copy
set_option linter.unusedVariables false
set_option linter.unusedSimpArgs false

/-- Where the first watch of a client stands, or -1. -/
def fnd (c : Int) : Nat → List S76 → Int
  | _, [] => -1
  | i, x :: t => if x.f0 = c then (i : Int) else fnd c (i + 1) t
theorem fnd_pre (c : Int) : ∀ (p q : List S76) (i : Nat), (∀ x ∈ p, x.f0 ≠ c) → fnd c i (p ++ q) = fnd c (i + p.length) q
  | [], q, i, h => by simp
  | x :: p, q, i, h => by
    simp only [List.cons_append, fnd]
    rw [if_neg (h x (by simp)), fnd_pre c p q (i + 1) (fun y hy => h y (by simp [hy]))]
    congr 1
    simp; omega
theorem fnd_cases (c : Int) : ∀ (l : List S76) (i : Nat), fnd c i l = -1 ∨ ∃ j, j < l.length ∧ fnd c i l = ((i + j : Nat) : Int)
  | [], i => .inl rfl
  | x :: t, i => by
    simp only [fnd]
    by_cases h : x.f0 = c
    · rw [if_pos h]; exact .inr ⟨0, by simp, by simp⟩
    · rw [if_neg h]
      rcases fnd_cases c t (i + 1) with h1 | ⟨j, h1, h2⟩
      · exact .inl h1
      · exact .inr ⟨j + 1, by simp; omega, by rw [h2]; congr 1; omega⟩

set_option maxRecDepth 100000 in
set_option maxHeartbeats 2000000 in
theorem watch_is (f0 : Int) (f1 : ByteArray) (f2 f3 : Int) (f4 : Bool) (A : Option Addr) (n c : Nat) (client : Int) (gc : Nat) (w : World) (hc : w.heap[gc]? = some (.cells #[.int .i64 client] 3 (0, 0))) :
    Calls Tryd.prog 82 #[.agg #[.int .i64 f0, .string f1, .int .i64 f2, .int .i64 f3, .bool f4, .slice A n c], .pointer (some ⟨gc, 0, none⟩)] w fun e w' => e = .returned (.bool (decide (f0 = client))) ∧ Below w.heap.size w w' := by
  have hx : (w.alloc (.cells #[.int .i64 f0, .string f1, .int .i64 f2, .int .i64 f3, .bool f4, .slice A n c] 76)).cell? ⟨gc, 0, none⟩ = some (.int .i64 client) := blk_cell (blk_alloc hc _) 0
  have hx2 : w.cell? ⟨gc, 0, none⟩ = some (.int .i64 client) := blk_cell hc 0
  clear hc
  go_enter Tryd.func82, Tryd.ntmps82
  go_wp2
  go_ret
  exact ⟨rfl, below_alloc (Below.refl _ _) _⟩

set_option maxRecDepth 100000 in
set_option maxHeartbeats 2000000 in
theorem index_func (ws : List S76) (A : Option Addr) (c : Nat) (client : Int) (gc : Nat) (w0 w : World) (hr : Kd.C k76 w0 A ws.length ws) (hw : Below w0.heap.size w0 w) (hs : ws.length ≤ 4194304) (hc : w.heap[gc]? = some (.cells #[.int .i64 client] 3 (0, 0))) :
    Calls Tryd.prog 81 #[.slice A ws.length c, .func (.func 82) #[] #[.pointer (some ⟨gc, 0, none⟩)]] w fun e w' => e = .returned (.int .i64 (fnd client 0 ws)) ∧ Below w.heap.size w w' := by
  have HR := Lib.hid (Kd.C_below hr hw)
  have HC := Lib.hid hc
  clear hr hw hc
  go_enter Tryd.func81, Tryd.ntmps81
  go_wp2_with fail
  go_loopw [8] (fun v8 wr => ∃ (p q : List S76), v8 = .int .i64 p.length ∧ Hid (ws = p ++ q) ∧ Hid (∀ x ∈ p, x.f0 ≠ client) ∧ Hid (Below w.heap.size w wr)) (fun v8 _ => ws.length - (intOf v8).toNat)
  case atStart => exact ⟨[], ws, rfl, Lib.hid rfl, Lib.hid (by simp), Lib.hid (Below.refl _ _)⟩
  case round =>
    obtain ⟨p, q, rfl, HL, HN, HB⟩ := hrel
    cases q with
    | nil =>
      have hl : p.length = ws.length := by rw [HL.out]; simp
      have HL2 := Lib.hid hl
      have hf : fnd client 0 ws = -1 := by rw [HL.out, fnd_pre client p [] 0 HN.out]; rfl
      have HF := Lib.hid hf
      clear hl hf
      rw [HL2.out]
      go_wp2
      go_ret
      exact ⟨by rw [HF.out]; rfl, HB.out⟩
    | cons x q =>
      have hl : p.length < ws.length := by rw [HL.out]; simp
      have hrd : rd_T76 ws (p.length : Int) = x := by rw [HL.out]; simp [rd_T76]
      have hf : fnd client 0 ws = if x.f0 = client then (p.length : Int) else fnd client (p.length + 1) q := by rw [HL.out, fnd_pre client p _ 0 HN.out]; simp [fnd]
      have HF := Lib.hid hf
      clear hf
      obtain ⟨ad, A5, d5, had, hy0, hy1, hy2, hy3, hy4, hy5, hl5, hr5⟩ := at_T76 (Kd.C_below HR.out HB.out) (p.length : Int) (by omega) (by omega)
      subst had
      rw [Int.toNat_natCast] at hy0 hy1 hy2 hy3 hy4 hy5
      rw [hrd] at hy0 hy1 hy2 hy3 hy4 hy5 hl5 hr5
      clear hl5 hr5 hrd
      go_wp2_with fail
      refine (watch_is x.f0 x.f1 x.f2 x.f3 x.f4 A5 _ d5 client gc _ (blk_below HC.out HB.out)).mono ?_
      rintro e w1 ⟨rfl, hb1⟩
      have HB1 := Lib.hid (below_then HB.out HB.out.size hb1)
      clear hb1 HB hy0 hy1 hy2 hy3 hy4 hy5
      by_cases he : x.f0 = client
      · have HF2 := Lib.hid (HF.out.trans (if_pos he))
        have hd : decide (x.f0 = client) = true := decide_eq_true he
        clear he
        go_wp2_with fail
        go_ret
        exact ⟨by rw [HF2.out]; rfl, HB1.out⟩
      · have hd : decide (x.f0 = client) = false := decide_eq_false he
        have HE := Lib.hid he
        clear he
        go_wp2_with fail
        go_roundw
        case rel =>
          refine ⟨p ++ [x], q, by simp, Lib.hid (by rw [HL.out]; simp), Lib.hid (fun y hy => ?_), HB1⟩
          rcases List.mem_append.1 hy with hy | hy
          · exact HN.out y hy
          · rw [List.mem_singleton.1 hy]; exact HE.out
        case measure => simp [intOf]; omega

set_option maxRecDepth 100000 in
set_option maxHeartbeats 2000000 in
theorem watch_of (ws : List S76) (v1 : Value) (A : Option Addr) (c : Nat) (A1 : Option Addr) (n1 c1 : Nat) (client : Int) (w0 w : World) (hr : Kd.C k76 w0 A ws.length ws) (hw : Below w0.heap.size w0 w) (hs : ws.length ≤ 4194304) :
    Calls Tryd.prog 55 #[.agg #[.slice A ws.length c, .slice A1 n1 c1], .int .i64 client] w fun e w' => e = .returned (.int .i64 (fnd client 0 ws)) ∧ Below w.heap.size w w' := by
  have HR := Lib.hid (Kd.C_below hr hw)
  have hmf : ∀ (fn : Fn) (first cap : Array Value) (w : World), (Instr.makeFunc fn first cap).run Tryd.prog w = .ok (.func fn first cap) w := fun _ _ _ _ => rfl
  clear hr hw
  go_enter Tryd.func55, Tryd.ntmps55
  go_wp2_with fail
  refine (index_func ws A c client (w.heap.size + 1) w _ HR.out (by repeat (first | exact Below.refl _ _ | apply below_alloc)) hs (by have := heap_alloc_new (w.alloc (.cells #[.slice A ws.length c, .slice A1 n1 c1] 44)) (.cells #[.int .i64 client] 3); rwa [World.size_alloc] at this)).mono ?_
  rintro e w1 ⟨rfl, hb1⟩
  have HB1 := Lib.hid (show Below w.heap.size w w1 from below_then (by repeat (first | exact Below.refl _ _ | apply below_alloc)) (by simp <;> omega) hb1)
  clear hb1
  go_wp2_with fail
  go_ret
  exact ⟨rfl, HB1.out⟩
end Go.Proofs.YtmphkhkbegihaaaDoor.Find
