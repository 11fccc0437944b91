/- slices.Delete of one watch: a contract by hand. -/
import Derived.Test.YtmphkhkbegihaaaDoorFind
import Derived.Deep.RegionLaw
import Derived.Laws.IdiomCopy
namespace Go.Proofs.YtmphkhkbegihaaaDoor.Find
open Go Go.RowKit Go.Proofs.YtmphkhkbegihaaaDoor.PHub Go.Proofs.YtmphkhkbegihaaaDoorW.PrintWords Go.Proofs.YtmphkhkbegihaaaDoor.Tree Go.Proofs.YtmphkhkbegihaaaDoor.Mark Go.Proofs.YtmphkhkbegihaaaDoor.To Go.Proofs.YtmphkhkbegihaaaDoor.Copy
set_option linter.unusedVariables false
set_option linter.unusedSimpArgs false

theorem S_tail {α : Type} {d : Kd α} {e : Nat} {w : World} {base : Nat} {ok : Nat → Prop} {g m c : Nat} {xs : List α} (h : Kd.S d e w base ok (.slice (some ⟨g, 0, none⟩) m c) xs) (o : Nat) (vs : List Value) (ho : m * d.sz ≤ o) (hov : o + vs.length ≤ c * d.sz) :
    Kd.S d e (w.setCells g o vs) base ok (.slice (some ⟨g, 0, none⟩) m c) xs ∧ (∀ j, j < vs.length → (w.cell? ⟨g, o + j, none⟩).isSome = true) ∧ (∀ j, w.frozen? ⟨g, j, none⟩ = false) := by
  obtain ⟨f, h0, inner, ⟨hl, hown⟩, hr⟩ := h
  rcases hown with ⟨hv, _⟩ | ⟨g', cap, cur, hv, hb, hh, hnc, hcm, hcs, hin⟩
  · cases hv
  · injection hv with h1 h2 h3
    injection h1 with h1
    injection h1 with h1
    subst h1; subst h2; subst h3
    have hsz : (Kd.tag f d).sz = d.sz := rfl
    rw [hsz] at hcs hin
    have hmc := Nat.mul_le_mul_right d.sz hnc
    obtain ⟨cur1, hh1, hs1, hcut⟩ := setCells_row vs o w cur hh (by rw [hcs]; exact hov)
    refine ⟨⟨f, h0, inner, ⟨hl, .inr ⟨g, c, cur1, rfl, hb, hh1, hnc, hcm, by rw [hs1]; exact hcs, ?_⟩⟩, ?_⟩, fun j hj => ?_, fun j => blk_frozen hh j⟩
    · have hle : xs.zipIdx.length * d.sz ≤ (cur.toList.take o).length := by
        have e : cur.toList.length = c * d.sz := by rw [Array.length_toList]; exact hcs
        rw [List.length_take, e]
        exact Nat.le_min.2 ⟨ho, hmc⟩
      rw [hsz, hcut, List.append_assoc, List.take_append_of_le_length hle, List.take_take, Nat.min_eq_left ho]
      exact hin
    · refine hr.imp_ (fun p cs hp => ?_)
      exact Kd.M_step hp (fun k hk _ => setCells_far vs o k (fun he => hk.2 (by rw [he]; rfl)))
    · rw [blk_cell hh, Array.getElem?_eq_getElem (by rw [hcs]; omega)]
      rfl
theorem clear_one {P : Program} (w : World) (t e ty : TypeId) (z : Value) (ht : P.underlying t = some (.slice e)) (hv : ∀ w, (zeroValue e).run P w = .ok z w) {b o c : Nat} (vs : List Value) (hz : (Builtin.zeroCells z.cells 1).toList = vs) (h1 : ∀ v ∈ vs, v.oneCell' = true)
    (hc : ∀ j, j < vs.length → (w.cell? ⟨b, o + j, none⟩).isSome = true) (hf : ∀ j, w.frozen? ⟨b, j, none⟩ = false) :
    (Builtin.clear_ #[t] ty #[.slice (some ⟨b, o, none⟩) 1 c]).run P w = .ok (.tuple #[]) (w.setCells b o vs) := by
  have hst := run_storeCells_cells (P := P) b o vs 0 w (by simpa using hc) (fun j _ => hf _) h1
  simp only [Nat.add_zero] at hst
  simp [Builtin.clear_, run_underlying ht, hv, hz, hst]

set_option maxRecDepth 100000 in
set_option maxHeartbeats 2000000 in
theorem delete_watch (ws : List S76) (g c i : Nat) (base : Nat) (ok : Nat → Prop) (w : World) (hS : Kd.S ms76 76 w base ok (.slice (some ⟨g, 0, none⟩) ws.length c) ws) (hi : i < ws.length) (hs : ws.length ≤ 4194304) (hbase : base ≤ w.heap.size) :
    Calls Tryd.prog 56 #[.slice (some ⟨g, 0, none⟩) ws.length c, .int .i64 (i : Int), .int .i64 ((i : Int) + 1)] w fun e w' => e = .returned (.slice (some ⟨g, 0, none⟩) (ws.length - 1) c) ∧ Kd.S ms76 76 w' base ok (.slice (some ⟨g, 0, none⟩) (ws.length - 1) c) (ws.eraseIdx i) ∧ Tch w w' (fun k => k = g) := by
  have hnc : ws.length ≤ c := (Kd.S_reads' hS).2.1
  have HS := Lib.hid hS
  clear hS
  obtain ⟨i0, hi0, hz0, hz1, hz2⟩ := info_parts info76
  go_enter Tryd.func56, Tryd.ntmps56
  go_wp2_with fail
  obtain ⟨Aj, hAj⟩ : ∃ Aj : Option Addr, Aj = if c = i + 1 then some ⟨g, 0, none⟩ else (some (⟨g, 0, none⟩ : Addr)).map (·.add ((i + 1) * 6)) := ⟨_, rfl⟩
  have hcut : ∀ W : World, (Instr.slice 41 (.slice (some ⟨g, 0, none⟩) ws.length c) (some (.int .i64 ((i : Int) + 1))) none none).run Tryd.prog W = .ok (.slice Aj (ws.length - (i + 1)) (c - (i + 1))) W := by
    intro W
    have h := cut_from (P := Tryd.prog) 41 76 .i64 Tryd.underlying41 hi0 6 hz1 (some ⟨g, 0, none⟩) ws.length c ((i : Int) + 1) (by omega) (by omega) W
    rw [show ((i : Int) + 1).toNat = i + 1 by omega, ← hAj] at h
    exact h
  have HA := Lib.hid hAj
  clear hAj
  have hic : i ≤ c := by omega
  go_region_law (first | (refine Kd.S_delete_step ms76 (w0 := w) (W := w.drew) base (by simp [Region.wanted]) (.tmp 22) (.tmp 25) 41 76 rfl Tryd.underlying41 (by rw [hi0]; exact congrArg some hz1) (g := g) (n := ws.length) (c := c) (k := i) (m := ws.length - (i + 1)) (c2 := c - (i + 1)) rfl rfl HA.out rfl (Kd.S_drew HS.out) hi (below_drew (Below.refl base w)) hbase ?_; intro w1 hS1 hb1 hg1; have HS1 := Lib.hid hS1; have HK1 := Lib.hid (show Tch w w1 (fun k => k = g) from ⟨hg1.os, hg1.tape, hg1.output, hg1.size, fun k hk hn => hg1.block k hk (fun he => hn (by injection he))⟩); clear hS1 hb1 hg1))
  obtain ⟨hS2, hcs, hfz⟩ := S_tail HS1.out ((ws.length - 1) * 6) [.int .i64 0, .string ⟨#[]⟩, .int .i64 0, .int .i64 0, .bool false, .slice none 0 0] (Nat.le_refl _) (by show (ws.length - 1) * 6 + 6 ≤ c * 6; omega)
  have hcl : (Builtin.clear_ #[41] 0 #[.slice (some ⟨g, (ws.length - 1) * 6, none⟩) (ws.length - (ws.length - 1)) (c - (ws.length - 1))]).run Tryd.prog w1 = .ok (.tuple #[]) (w1.setCells g ((ws.length - 1) * 6) [.int .i64 0, .string ⟨#[]⟩, .int .i64 0, .int .i64 0, .bool false, .slice none 0 0]) := by
    rw [show ws.length - (ws.length - 1) = 1 by omega]
    exact clear_one w1 41 76 0 (.agg #[.int .i64 0, .string ⟨#[]⟩, .int .i64 0, .int .i64 0, .bool false, .slice none 0 0]) Tryd.underlying41 (fun w => by kernel_rfl) _ (by kernel_rfl) (by intro v hv; simp at hv; rcases hv with rfl | rfl | rfl | rfl | rfl | rfl <;> rfl) hcs hfz
  have HS2 := Lib.hid hS2
  have HK2 := Lib.hid (show Tch w (w1.setCells g ((ws.length - 1) * 6) [.int .i64 0, .string ⟨#[]⟩, .int .i64 0, .int .i64 0, .bool false, .slice none 0 0]) (fun k => k = g) from HK1.out.then_ (S2 := fun k => k = g) (by
    obtain ⟨a1, a2, a3, a4⟩ := setCells_same g [.int .i64 0, .string ⟨#[]⟩, .int .i64 0, .int .i64 0, .bool false, .slice none 0 0] ((ws.length - 1) * 6) w1
    exact ⟨a1, a2, a3, Nat.le_of_eq a4.symm, fun k _ hn => setCells_far _ _ k hn⟩) (fun k hk => .inl hk))
  clear hS2 hcs hfz
  go_wp2_with fail
  go_ret
  exact ⟨rfl, HS2.out, HK2.out⟩
end Go.Proofs.YtmphkhkbegihaaaDoor.Find
