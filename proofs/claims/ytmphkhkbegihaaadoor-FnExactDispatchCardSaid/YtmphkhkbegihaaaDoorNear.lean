/- What a watch is told of news: the closure, slices.IndexFunc and slices.DeleteFunc by hand. -/
import Derived.Test.YtmphkhkbegihaaaDoorHubG
import Derived.Test.YtmphkhkbegihaaaDoorTok
namespace Go.Proofs.YtmphkhkbegihaaaDoor.Near
open Go Go.RowKit Go.Proofs.YtmphkhkbegihaaaDoor.PHub Go.Proofs.YtmphkhkbegihaaaDoorW.PrintWords Go.Proofs.YtmphkhkbegihaaaDoor.Tree Go.Proofs.YtmphkhkbegihaaaDoor.Mark Go.Proofs.YtmphkhkbegihaaaDoor.To Go.Proofs.YtmphkhkbegihaaaDoor.Copy Go.Proofs.YtmphkhkbegihaaaDoor.HubLaw Go.Proofs.YtmphkhkbegihaaaDoor.Tok Go.Proofs.YtmphkhkbegihaaaDoor.Own
set_option linter.unusedVariables false
set_option linter.unusedSimpArgs false

/-- The pointers that lie near another one. -/
def nearB (a p : ByteArray) : Bool := decide (1 ≤ withinF a p)
def fndN (a : ByteArray) : Nat → List ByteArray → Int
  | _, [] => -1
  | i, x :: t => if nearB a x = false then (i : Int) else fndN a (i + 1) t
theorem fndN_pre (a : ByteArray) : ∀ (p q : List ByteArray) (i : Nat), (∀ x ∈ p, nearB a x = true) → fndN a i (p ++ q) = fndN a (i + p.length) q
  | [], q, i, h => by simp
  | x :: p, q, i, h => by
    simp only [List.cons_append, fndN]
    rw [if_neg (by rw [h x (by simp)]; decide), fndN_pre a p q (i + 1) (fun y hy => h y (by simp [hy]))]
    congr 1
    simp; omega
theorem fndN_cases (a : ByteArray) : ∀ (l : List ByteArray) (i : Nat), (fndN a i l = -1 ∧ ∀ x ∈ l, nearB a x = true) ∨ ∃ p x q, l = p ++ x :: q ∧ (∀ y ∈ p, nearB a y = true) ∧ nearB a x = false ∧ fndN a i l = ((i + p.length : Nat) : Int)
  | [], i => .inl ⟨rfl, by simp⟩
  | x :: t, i => by
    cases h : nearB a x
    · exact .inr ⟨[], x, t, rfl, by simp, h, by simp only [fndN]; rw [if_pos h]; simp⟩
    · simp only [fndN]
      rw [if_neg (by rw [h]; decide)]
      rcases fndN_cases a t (i + 1) with ⟨h1, h2⟩ | ⟨p, y, q, e, h1, h2, h3⟩
      · exact .inl ⟨h1, fun z hz => by rcases List.mem_cons.1 hz with rfl | hz; exact h; exact h2 z hz⟩
      · exact .inr ⟨x :: p, y, q, by rw [e]; rfl, fun z hz => by rcases List.mem_cons.1 hz with rfl | hz; exact h; exact h1 z hz, h2, by rw [h3]; congr 1; simp; omega⟩
theorem within_ev (a b : ByteArray) (ha : a.size ≤ 4194304) (hb : b.size ≤ 4194304) : impl_Within.f (a.size + b.size + 10) a b = some (withinF a b) := implWithin a b ha hb _ (Nat.le_refl _)

set_option maxRecDepth 100000 in
set_option maxHeartbeats 2000000 in
theorem tell_is (a p : ByteArray) (gc gW o : Nat) (w : World) (hc : w.heap[gc]? = some (.cells #[.pointer (some ⟨gW, o, none⟩)] 120 (0, 0))) (hp : w.cell? ⟨gW, o + 1, none⟩ = some (.string a)) (hG : GM w) (ha : a.size ≤ 4194304) (hb : p.size ≤ 4194304) :
    Calls Tryd.prog 89 #[.string p, .pointer (some ⟨gc, 0, none⟩)] w fun e w' => e = .returned (.bool (!nearB a p)) ∧ Below w.heap.size w w' := by
  have hx2 : w.cell? ⟨gc, 0, none⟩ = some (.pointer (some ⟨gW, o, none⟩)) := blk_cell hc 0
  have HW := Lib.hid (within_ev a p ha hb)
  have HG := Lib.hid hG
  clear hc hG ha hb
  go_enter Tryd.func89, Tryd.ntmps89
  go_wp2_with fail
  refine (impl_Within.calls _ a p _ _ HG.out HW.out).mono ?_
  rintro e w1 ⟨rfl, hb1⟩
  have HB := Lib.hid hb1
  clear hb1 hx2 hp
  have hn : decide (withinF a p < 1) = !nearB a p := by
    unfold nearB
    by_cases h : withinF a p < 1
    · rw [decide_eq_true h, decide_eq_false (by omega)]; rfl
    · rw [decide_eq_false h, decide_eq_true (by omega)]; rfl
  have HN := Lib.hid hn
  clear hn
  go_wp2_with fail
  go_ret
  exact ⟨by simp; exact HN.out, HB.out⟩

set_option maxRecDepth 100000 in
set_option maxHeartbeats 2000000 in
theorem index_near (a : ByteArray) (l : List ByteArray) (A : Option Addr) (c : Nat) (gc gW o : Nat) (w0 w : World) (hr : Kd.C Kd.string w0 A l.length l) (hw : Below w0.heap.size w0 w) (hs : l.length ≤ 4194304) (hl : ∀ x ∈ l, x.size ≤ 4194304) (ha : a.size ≤ 4194304) (hc : w.heap[gc]? = some (.cells #[.pointer (some ⟨gW, o, none⟩)] 120 (0, 0))) (hp : w.cell? ⟨gW, o + 1, none⟩ = some (.string a)) (hgW : gW < w.heap.size) (hG : GM w) :
    Calls Tryd.prog 102 #[.slice A l.length c, .func (.func 89) #[] #[.pointer (some ⟨gc, 0, none⟩)]] w fun e w' => e = .returned (.int .i64 (fndN a 0 l)) ∧ Below w.heap.size w w' := by
  have HR := Lib.hid (Kd.C_below hr hw)
  have HC := Lib.hid hc
  have HP := Lib.hid hp
  have HG := Lib.hid hG
  have HL := Lib.hid hl
  clear hr hw hc hp hG hl
  go_enter Tryd.func102, Tryd.ntmps102
  go_wp2_with fail
  go_loopw [8] (fun v8 wr => ∃ (p q : List ByteArray), v8 = .int .i64 p.length ∧ Hid (l = p ++ q) ∧ Hid (∀ x ∈ p, nearB a x = true) ∧ Hid (Below w.heap.size w wr)) (fun v8 _ => l.length - (intOf v8).toNat)
  case atStart => exact ⟨[], l, rfl, Lib.hid rfl, Lib.hid (by simp), Lib.hid (Below.refl _ _)⟩
  case round =>
    obtain ⟨p, q, rfl, HLL, HN, HB⟩ := hrel
    cases q with
    | nil =>
      have hl : p.length = l.length := by rw [HLL.out]; simp
      have HL2 := Lib.hid hl
      have hf : fndN a 0 l = -1 := by rw [HLL.out, fndN_pre a p [] 0 HN.out]; rfl
      have HF := Lib.hid hf
      clear hl hf
      rw [HL2.out]
      go_wp2
      go_ret
      exact ⟨by rw [HF.out]; rfl, HB.out⟩
    | cons x q =>
      have hl : p.length < l.length := by rw [HLL.out]; simp
      have hrd : rdOf ByteArray.empty l (p.length : Int) = x := by rw [HLL.out]; simp [rdOf]
      have hf : fndN a 0 l = if nearB a x = false then (p.length : Int) else fndN a (p.length + 1) q := by rw [HLL.out, fndN_pre a p _ 0 HN.out]; simp [fndN]
      have HF := Lib.hid hf
      clear hf
      obtain ⟨ad, had, hcell⟩ := (Kd.C_below HR.out HB.out).2.2 (by omega)
      subst had
      obtain ⟨cs, hcl, hK, hcc⟩ := hcell p.length x (by rw [HLL.out]; simp)
      have hy0 : wr.cell? (ad.add p.length) = some (.string x) := by
        have h1 := hcc 0 (.string x) (by rw [show cs = [.string x] from hK]; rfl)
        simpa [Kd.string, Kd.scalar] using h1
      clear hcl hK hcc hcell hrd
      have hx4 := HL.out x (by rw [HLL.out]; simp)
      have HX4 := Lib.hid hx4
      clear hx4
      go_wp2_with fail
      refine (tell_is a x gc gW o _ (blk_below HC.out HB.out) ((HB.out.cell (p := ⟨gW, o + 1, none⟩) hgW).trans HP.out) (GM.of HG.out HB.out) ha HX4.out).mono ?_
      rintro e w1 ⟨rfl, hb1⟩
      have HB1 := Lib.hid (below_then HB.out HB.out.size hb1)
      clear hb1 HB hy0
      cases he : nearB a x
      · have HF2 := Lib.hid (HF.out.trans (if_pos he))
        go_wp2_with fail
        go_ret
        exact ⟨by rw [HF2.out]; rfl, HB1.out⟩
      · have HE := Lib.hid he
        clear he
        go_wp2_with fail
        go_roundw
        case rel =>
          refine ⟨p ++ [x], q, by simp, Lib.hid (by rw [HLL.out]; simp), Lib.hid (fun y hy => ?_), HB1⟩
          rcases List.mem_append.1 hy with hy | hy
          · exact HN.out y hy
          · rw [List.mem_singleton.1 hy]; exact HE.out
        case measure => simp [intOf]; omega

theorem R_tail {α : Type} {d : Kd α} {e : Nat} {w : World} {base : Nat} {ok : Nat → Prop} {g m c : Nat} {xs : List α} (h : d.R e w base ok (.slice (some ⟨g, 0, none⟩) m c) xs) (o : Nat) (vs : List Value) (ho : m * d.sz ≤ o) (hov : o + vs.length ≤ c * d.sz) :
    d.R e (w.setCells g o vs) base ok (.slice (some ⟨g, 0, none⟩) m c) xs ∧ (∀ j, j < vs.length → (w.cell? ⟨g, o + j, none⟩).isSome = true) ∧ (∀ j, w.frozen? ⟨g, j, none⟩ = false) := by
  obtain ⟨h0, inner, ⟨hl, hown⟩, hr⟩ := h
  rcases hown with ⟨hv, _⟩ | ⟨g', cap, cur, hv, hb, hh, hnc, hcm, hcs, hin⟩
  · cases hv
  · injection hv with h1 h2 h3
    injection h1 with h1
    injection h1 with h1
    subst h1; subst h2; subst h3
    have hmc := Nat.mul_le_mul_right d.sz hnc
    obtain ⟨cur1, hh1, hs1, hcut⟩ := setCells_row vs o w cur hh (by rw [hcs]; exact hov)
    refine ⟨⟨h0, inner, ⟨hl, .inr ⟨g, c, cur1, rfl, hb, hh1, hnc, hcm, by rw [hs1]; exact hcs, ?_⟩⟩, ?_⟩, fun j hj => ?_, fun j => blk_frozen hh j⟩
    · have hle : xs.length * d.sz ≤ (cur.toList.take o).length := by
        have e : cur.toList.length = c * d.sz := by rw [Array.length_toList]; exact hcs
        rw [List.length_take, e]
        exact Nat.le_min.2 ⟨ho, hmc⟩
      rw [hcut, List.append_assoc, List.take_append_of_le_length hle, List.take_take, Nat.min_eq_left ho]
      exact hin
    · refine hr.imp_ (fun p cs hp => ?_)
      exact Kd.M_step hp (fun k hk _ => setCells_far vs o k (fun he => hk.2 (by rw [he]; rfl)))
    · rw [blk_cell hh, Array.getElem?_eq_getElem (by rw [hcs]; omega)]
      rfl
theorem zero_strs (z : Value) (n : Nat) : (Builtin.zeroCells #[z] n).toList = List.replicate n z := by
  unfold Builtin.zeroCells
  refine List.eq_replicate_iff.2 ⟨by simp, fun b hb => ?_⟩
  simp only [Array.toList_map, List.mem_map] at hb
  obtain ⟨i, _, rfl⟩ := hb
  simp [Nat.mod_one]
theorem clear_strs {P : Program} (w : World) (t e ty : TypeId) (ht : P.underlying t = some (.slice e)) (hv : ∀ w, (zeroValue e).run P w = .ok (.string ⟨#[]⟩) w) {b o n c : Nat}
    (hc : ∀ j, j < n + 1 → (w.cell? ⟨b, o + j, none⟩).isSome = true) (hf : ∀ j, w.frozen? ⟨b, j, none⟩ = false) :
    (Builtin.clear_ #[t] ty #[.slice (some ⟨b, o, none⟩) (n + 1) c]).run P w = .ok (.tuple #[]) (w.setCells b o (List.replicate (n + 1) (.string ⟨#[]⟩))) := by
  have hz := zero_strs (.string ⟨#[]⟩) (n + 1)
  have hst := run_storeCells_cells (P := P) b o (List.replicate (n + 1) (.string ⟨#[]⟩)) 0 w (by simpa using hc) (fun j _ => hf _) (by intro v hv; rw [List.eq_of_mem_replicate hv]; rfl)
  simp only [Nat.add_zero] at hst
  have e1 : Value.cells (.string (⟨#[]⟩ : ByteArray)) = #[.string ⟨#[]⟩] := rfl
  simp [Builtin.clear_, run_underlying ht, hv, e1, hz, hst]

/-- What DeleteFunc has done: the head's good ones stand in front. -/
def keepN (a : ByteArray) (l : List ByteArray) : List ByteArray := l.filter (nearB a)
set_option maxRecDepth 100000 in
set_option maxHeartbeats 4000000 in
theorem delete_near (a : ByteArray) (l : List ByteArray) (base : Nat) (ok : Nat → Prop) (v : Value) (gc gW o : Nat) (w : World) (hr : Kd.string.R 9 w base ok v l) (hs : l.length ≤ 4194304) (hl : ∀ x ∈ l, x.size ≤ 4194304) (ha : a.size ≤ 4194304) (hc : w.heap[gc]? = some (.cells #[.pointer (some ⟨gW, o, none⟩)] 120 (0, 0))) (hp : w.cell? ⟨gW, o + 1, none⟩ = some (.string a)) (hgW : gW < w.heap.size) (hG : GM w) (hbase : base ≤ w.heap.size) (hok : ∀ k, ok k → k ≠ gc ∧ k ≠ gW ∧ k ≠ 0) (hgm : ∀ w1, Tch w w1 (fun k => some k = v.ownBlock) → GM w1) :
    Calls Tryd.prog 88 #[v, .func (.func 89) #[] #[.pointer (some ⟨gc, 0, none⟩)]] w fun e w' => ∃ v', e = .returned v' ∧ Kd.string.R 9 w' base ok v' (keepN a l) ∧ Tch w w' (fun k => some k = v.ownBlock) := by
  obtain ⟨A, c, rfl⟩ := Kd.R_slice hr
  have hnc : l.length ≤ c := (Kd.R_reads' hr).2.1
  have HR := Lib.hid hr
  have HC := Lib.hid hc
  have HP := Lib.hid hp
  have HG := Lib.hid hG
  have HL := Lib.hid hl
  have HGM := Lib.hid hgm
  have HOK := Lib.hid hok
  have hread := (Kd.R_reads' hr).2.2
  have HRD := Lib.hid hread
  clear hr hc hp hG hl hgm hok hread
  go_enter Tryd.func88, Tryd.ntmps88
  go_wp2_with fail
  refine (index_near a l A c gc gW o w _ HRD.out (Below.refl _ _) hs HL.out ha HC.out HP.out hgW HG.out).mono ?_
  rintro e w1 ⟨rfl, hb1⟩
  have HB1 := Lib.hid hb1
  clear hb1
  rcases fndN_cases a l 0 with ⟨hf, hall⟩ | ⟨p, x, q, hlq, hpn, hxn, hf⟩
  · have HF := Lib.hid hf
    have hk : keepN a l = l := List.filter_eq_self.2 hall
    have HK := Lib.hid hk
    rw [HF.out]
    clear hf hall hk
    go_wp2_with fail
    go_ret
    exact ⟨_, rfl, by rw [HK.out]; exact Kd.R_below HR.out HB1.out, Tch.of_below HB1.out _⟩
  · have HF := Lib.hid hf
    obtain ⟨g, cap, hv, hgb, hgl, _⟩ := Kd.R_form HR.out (by rw [hlq]; simp <;> omega)
    injection hv with h1 h2 h3
    subst h1; subst h3
    have hokg : ok g := HR.out.1 g rfl
    have hgc : gc ≠ g := fun h => (HOK.out g hokg).1 h.symm
    have hgg : gW ≠ g := fun h => (HOK.out g hokg).2.1 h.symm
    have hne : ¬ ((0 + p.length : Nat) : Int) = -1 := by omega
    rw [HF.out]
    have hpl : p.length < l.length := by rw [hlq]; simp
    have HPL := Lib.hid hpl
    have hst1 : l.take p.length = keepN a (l.take (p.length + 1)) := by
      rw [hlq, List.take_left' rfl]
      have e : (p ++ x :: q).take (p.length + 1) = p ++ [x] := by
        rw [show p ++ x :: q = (p ++ [x]) ++ q by simp, List.take_left' (by simp)]
      rw [e, keepN, List.filter_append, List.filter_eq_self.2 hpn]
      simp [hxn]
    have HST := Lib.hid hst1
    clear hf hlq hpn hxn hst1
    simp only [Nat.zero_add] at hne ⊢
    have hK0 := Lib.hid (Tch.of_below HB1.out (fun k => some k = (Value.slice (some ⟨g, 0, none⟩) l.length c).ownBlock))
    go_wp2_with fail
    go_loopw [5, 6] (fun v5 v6 wr => ∃ (j k : Nat) (L : List ByteArray), v5 = .int .i64 k ∧ v6 = .int .i64 j ∧ Hid (k < j ∧ j ≤ l.length) ∧ Hid (L.length = l.length) ∧ Hid (L.take k = keepN a (l.take j)) ∧ Hid (L.drop j = l.drop j) ∧ Hid (Kd.string.R 9 wr base ok (.slice (some ⟨g, 0, none⟩) l.length c) L) ∧ Hid (Tch w wr (fun k => some k = (Value.slice (some ⟨g, 0, none⟩) l.length c).ownBlock))) (fun _ v6 _ => l.length - (intOf v6).toNat)
    case atStart => exact ⟨p.length + 1, p.length, l, rfl, rfl, Lib.hid ⟨by omega, by have := HPL.out; omega⟩, Lib.hid rfl, HST, Lib.hid rfl, Lib.hid (Kd.R_below HR.out HB1.out), hK0⟩
    case round =>
      obtain ⟨j, k, L, rfl, rfl, HJK, HLN, HTK, HDR, HRL, HK⟩ := hrel
      have hjk := HJK.out.1
      have hjl0 := HJK.out.2
      by_cases hjl : j < l.length
      · obtain ⟨y, hy⟩ : ∃ y, l[j]? = some y := ⟨_, List.getElem?_eq_getElem hjl⟩
        have hLj : L[j]? = some y := by
          have h1 := congrArg (fun z => z[0]?) HDR.out
          simp only [List.getElem?_drop, Nat.add_zero] at h1
          rw [h1]; exact hy
        obtain ⟨cs, hcl, hM, hcc, hfr⟩ := Kd.R_elem HRL.out ByteArray.empty (j : Int) (by omega) (by omega)
        rw [Int.toNat_natCast, List.getD_eq_getElem?_getD, hLj] at hM
        have hcs : cs = [.string y] := hM
        subst hcs
        have hy0 : wr.cell? ⟨g, j, none⟩ = some (.string y) := by
          have h1 := hcc 0 _ rfl
          simpa [Kd.string, Kd.scalar] using h1
        have hys := HL.out y (List.mem_of_getElem? hy)
        have HYS := Lib.hid hys
        have HY := Lib.hid hy
        clear hcl hM hcc hfr hLj hys hy
        go_wp2_with fail
        refine (tell_is a y gc gW o _ (blk_kept HC.out HK.out.kept (fun h => hgc (by injection h))) ?hp (HGM.out _ HK.out) ha HYS.out).mono ?_
        case hp =>
          have h2 := HK.out.kept.2 gW hgW (fun h => hgg (by injection h))
          have h3 : wr.cell? ⟨gW, o + 1, none⟩ = w.cell? ⟨gW, o + 1, none⟩ := by simp only [World.cell?, h2]
          rw [h3]; exact HP.out
        rintro e w2 ⟨rfl, hb2⟩
        have HRL2 := Lib.hid (Kd.R_below HRL.out hb2)
        have HK2 := Lib.hid (HK.out.below hb2)
        have htake : l.take (j + 1) = l.take j ++ [y] := by rw [List.take_add_one, HY.out]; rfl
        have HTA := Lib.hid htake
        clear hb2 hy0 htake
        cases hny : nearB a y
        · have HNY := Lib.hid hny
          clear hny
          go_wp2_with fail
          go_roundw
          case rel =>
            refine ⟨j + 1, k, L, rfl, by simp, Lib.hid ⟨by omega, by omega⟩, HLN, Lib.hid ?_, Lib.hid ?_, HRL2, HK2⟩
            · rw [HTA.out, HTK.out, keepN, keepN, List.filter_append]
              simp [HNY.out]
            · rw [← List.drop_drop, ← List.drop_drop, HDR.out]
          case measure => simp [intOf]; omega
        · have HNY := Lib.hid hny
          clear hny
          have hkl : k < l.length := by omega
          obtain ⟨cs, hcl, hM, hcc, hfr⟩ := Kd.R_elem HRL2.out ByteArray.empty (k : Int) (by omega) (by omega)
          rw [Int.toNat_natCast] at hM hcc hfr
          have hcs : cs = [.string (L.getD k ByteArray.empty)] := hM
          subst hcs
          have hz0 : w2.cell? ⟨g, k, none⟩ = some (.string (L.getD k ByteArray.empty)) := by
            have h1 := hcc 0 _ rfl
            simpa [Kd.string, Kd.scalar] using h1
          have hf0 : w2.frozen? ⟨g, k, none⟩ = false := by
            have h1 := hfr 0
            simpa [Kd.string, Kd.scalar] using h1
          clear hcl hM hcc hfr
          go_wp2_with fail
          go_roundw
          case rel =>
            have hset : Kd.string.R 9 (w2.setCell ⟨g, k, none⟩ (.string y)) base ok (.slice (some ⟨g, 0, none⟩) l.length c) (L.set k y) := by
              obtain ⟨cs, hcl, hM, hcc, hfr⟩ := Kd.R_elem HRL2.out ByteArray.empty (k : Int) (by omega) (by omega)
              have h := (Kd.R_seg HRL2.out (k : Int) (by omega) (by omega) (seg := [.string y]) (j := 0) hcl hcc (Nat.le_refl 1) (x' := y) (okp := fun _ => False) (by
                have e : cs.take 0 ++ [Value.string y] ++ cs.drop (0 + [Value.string y].length) = [.string y] := by
                  show [] ++ _ ++ cs.drop 1 = _
                  rw [List.drop_of_length_le (by rw [hcl]; decide)]; rfl
                rw [e]; rfl) (fun k hk => hk.elim)).1
              rw [Int.toNat_natCast] at h
              simpa [Kd.string, Kd.scalar, World.setCells] using h
            refine ⟨j + 1, k + 1, L.set k y, by simp, by simp, Lib.hid ⟨by omega, by omega⟩, Lib.hid (by rw [List.length_set]; exact HLN.out), Lib.hid ?_, Lib.hid ?_, Lib.hid hset, Lib.hid (HK2.out.setCell (p := ⟨g, k, none⟩) (.inl rfl) _)⟩
            · rw [HTA.out, keepN, List.filter_append, ← keepN, ← HTK.out]
              have hkL : k < L.length := by rw [HLN.out]; exact hkl
              rw [List.take_add_one, List.getElem?_set_self hkL, List.take_set_of_le (Nat.le_refl k)]
              simp [HNY.out]
            · rw [List.drop_set_of_lt (by omega), ← List.drop_drop, ← List.drop_drop, HDR.out]
          case measure => simp [intOf]; omega
      · have hje : j = l.length := by omega
        have HJE := Lib.hid hje
        obtain ⟨m, hm⟩ : ∃ m, l.length = k + (m + 1) := ⟨l.length - k - 1, by omega⟩
        have HM := Lib.hid hm
        have hTK := HTK.out
        rw [hje, List.take_of_length_le (Nat.le_refl _)] at hTK
        have hR2 := Kd.R_take HRL.out (m := k) (by rw [HLN.out]; omega)
        rw [hTK] at hR2
        obtain ⟨hR3, hcs, hfz⟩ := R_tail hR2 k (List.replicate (m + 1) (.string ⟨#[]⟩)) (by show k * 1 ≤ k; omega) (by rw [List.length_replicate]; show k + (m + 1) ≤ c * 1; omega)
        rw [List.length_replicate] at hcs
        obtain ⟨i0, hi0, hz0, hz1, hz2⟩ := info_parts info9
        have hcut : ∀ W : World, (Instr.slice 22 (.slice (some ⟨g, 0, none⟩) l.length c) (some (.int .i64 (k : Int))) none none).run Tryd.prog W = .ok (.slice (some ⟨g, k, none⟩) (m + 1) (c - k)) W := by
          intro W
          have h := cut_from (P := Tryd.prog) 22 9 .i64 Tryd.underlying22 hi0 1 hz1 (some ⟨g, 0, none⟩) l.length c (k : Int) (by omega) (by omega) W
          rw [Int.toNat_natCast, if_neg (by omega), show l.length - k = m + 1 by omega] at h
          rw [h]
          simp [Addr.add]
          omega
        have hcut2 : ∀ W : World, (Instr.slice 22 (.slice (some ⟨g, 0, none⟩) l.length c) none (some (.int .i64 (k : Int))) none).run Tryd.prog W = .ok (.slice (some ⟨g, 0, none⟩) k c) W := by
          intro W
          have h := cut_to (P := Tryd.prog) 22 9 .i64 Tryd.underlying22 hi0 (some ⟨g, 0, none⟩) l.length c (k : Int) (by omega) (by omega) hnc W
          rw [Int.toNat_natCast] at h
          exact h
        have hcl : (Builtin.clear_ #[22] 0 #[.slice (some ⟨g, k, none⟩) (m + 1) (c - k)]).run Tryd.prog wr = .ok (.tuple #[]) (wr.setCells g k (List.replicate (m + 1) (.string ⟨#[]⟩))) := clear_strs wr 22 9 0 Tryd.underlying22 (fun w => by kernel_rfl) hcs hfz
        have HR3 := Lib.hid hR3
        have hK3 : Tch w (wr.setCells g k (List.replicate (m + 1) (.string ⟨#[]⟩))) (fun k => some k = (Value.slice (some ⟨g, 0, none⟩) l.length c).ownBlock) := by
          obtain ⟨a1, a2, a3, a4⟩ := setCells_same g (List.replicate (m + 1) (.string ⟨#[]⟩)) k wr
          exact HK.out.then_ (S2 := fun k => k = g) ⟨a1, a2, a3, Nat.le_of_eq a4.symm, fun q _ hn => setCells_far _ _ q hn⟩ (fun q hq => .inl (by rw [hq]; rfl))
        have HK3 := Lib.hid hK3
        clear hR2 hR3 hcs hfz hi0 hz0 hz1 hz2 hK3 hTK hm hje
        go_wp2_with fail
        go_ret
        exact ⟨_, rfl, HR3.out, HK3.out⟩
end Go.Proofs.YtmphkhkbegihaaaDoor.Near
