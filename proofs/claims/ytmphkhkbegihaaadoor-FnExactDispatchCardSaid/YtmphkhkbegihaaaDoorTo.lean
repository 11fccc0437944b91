/- The laws' copies of rows of rows: contracts by hand, over Tree's rows that lie apart. -/
import Derived.Test.YtmphkhkbegihaaaDoorMark
namespace Go.Proofs.YtmphkhkbegihaaaDoor.To
open Go Go.RowKit Go.Proofs.YtmphkhkbegihaaaDoor.PHub Go.Proofs.YtmphkhkbegihaaaDoorW.PrintWords Go.Proofs.YtmphkhkbegihaaaDoor.Tree Go.Proofs.YtmphkhkbegihaaaDoor.Mark
set_option linter.unusedVariables false
set_option linter.unusedSimpArgs false

theorem bcell {W w1 : World} (hb : Below W.heap.size W w1) : (∀ b o, b < W.heap.size → w1.cell? ⟨b, o, none⟩ = W.cell? ⟨b, o, none⟩) ∧ (∀ b o, b < W.heap.size → w1.frozen? ⟨b, o, none⟩ = W.frozen? ⟨b, o, none⟩) :=
  ⟨fun b o h => hb.cell (p := ⟨b, o, none⟩) h, fun b o h => hb.frozen (p := ⟨b, o, none⟩) h⟩

theorem size_set (w : World) (p : Addr) (u : Value) : (w.setCell p u).heap.size = w.heap.size := by simp [World.setCell]
/-- xs[i] := x1, the new element's blocks being okp. -/
theorem T_set {α : Type} {d : Kd α} {e : Nat} {w : World} {base : Nat} {ok ok1 okp : Nat → Prop} {g o n c : Nat} {xs : List α} (h : T d e w base ok (.slice (some ⟨g, o, none⟩) n c) xs) (i : Nat) (x x1 : α) (hx : xs[i]? = some x) (seg : List Value)
    (hM : d.M w base okp x1 seg) (hokp : ∀ k, okp k → ¬ ok k ∧ ok1 k ∧ k ≠ g) (hok : ∀ k, ok k → ok1 k) (a : Nat) (ha : a = o + i * d.sz) :
    T d e (w.setCells g a seg) base ok1 (.slice (some ⟨g, o, none⟩) n c) (xs.set i x1) := by
  subst ha
  obtain ⟨g', o', c', cur, F, hv, hc, hg, hb, hh, hs, hF, hMx, hback⟩ := T_at h i x hx
  injection hv with h1 h2 h3
  injection h1 with h1
  injection h1 with h1 h4
  subst h1; subst h4; subst h2; subst h3
  have hl := d.K_len (d.K_of_M hM)
  obtain ⟨cur1, hh1, hs1, hcut⟩ := setCells_row seg (o + i * d.sz) w cur hh (by rw [hl]; exact hs)
  have hlc : (cur.toList.take (o + i * d.sz)).length = o + i * d.sz := by rw [List.length_take, Array.length_toList]; omega
  refine hback _ cur1 x1 okp ok1 hh1 hs1 (fun p hp => ?_) (fun k _ _ hk _ => setCells_far seg _ k hk) hok (fun k hk => ⟨.inr (.inr (hokp k hk).1), (hokp k hk).2.1, (hokp k hk).2.2⟩) ?_
  · rw [← Array.getElem?_toList, hcut, ← Array.getElem?_toList]
    rcases hp with hp | hp
    · rw [List.append_assoc, List.getElem?_append_left (by omega), List.getElem?_take, if_pos hp]
    · rw [List.getElem?_append_right (by rw [List.length_append]; omega), List.getElem?_drop, List.length_append, hlc, hl]
      congr 1
      omega
  · have hc2 : cut cur1 (o + i * d.sz) d.sz = seg := by
      unfold cut
      rw [hcut, List.append_assoc, List.drop_append_of_le_length (by omega), List.drop_of_length_le (by omega), List.nil_append, ← hl, List.take_left]
    rw [hc2]
    exact Kd.M_step hM (fun k hk _ => setCells_far seg _ k (hokp k hk).2.2)

theorem T_far {α : Type} {d : Kd α} {e : Nat} {w : World} {base : Nat} {ok : Nat → Prop} {v : Value} {xs : List α} (h : T d e w base ok v xs) {p : Addr} (hp : ∀ k, ok k → k ≠ p.block) (u : Value) : T d e (w.setCell p u) base ok v xs :=
  T_step h (fun k hk _ => Below.heap_setCell w p u k (hp k hk))
theorem T_fresh {α : Type} {d : Kd α} {e : Nat} {w1 : World} {base : Nat} {ok : Nat → Prop} {v : Value} {xs : List α} (h : Kd.S d e w1 base ok v xs) : T d e w1 0 (fun k => base ≤ k ∧ k < w1.heap.size) v xs :=
  T_mono (T_lower (T_now (T_of_S h)) (Nat.zero_le _)) (fun _ hk => hk.2)

/-! ### a copy of a row of strings -/
set_option maxRecDepth 100000 in
set_option maxHeartbeats 2000000 in
theorem to_str (l0 : List ByteArray) (A : Option Addr) (c : Nat) (w0 w : World) (hr : Kd.C Kd.string w0 A l0.length l0) (hw : Below w0.heap.size w0 w) (hs : l0.length ≤ 4194304) :
    Calls Tryd.prog 12 #[.slice A l0.length c] w fun e w' => ∃ v, e = .returned v ∧ T Kd.string 9 w' 0 (fun k => w.heap.size ≤ k) v l0 ∧ Below w.heap.size w w' := by
  have HR := Lib.hid (Kd.C_below hr hw)
  clear hr hw
  go_enter Tryd.func12, Tryd.ntmps12
  go_wp2_with (first | ((with_reducible refine gate_dst (N := 7) rfl ?_); refine Kd.S_make Kd.string _ 9 rfl (N := 7) rfl 22 _ _ rfl (l0.length : Int) rfl rfl Tryd.underlying22 (.string ⟨#[]⟩) 16 info9 rfl (by decide) (by omega) ⟨#[]⟩ (ok := fun _ => True) (okp := fun _ => True) rfl (fun _ hk => hk) trivial (by omega) (by omega) (Below.refl _ _) (Nat.le_refl _) ?_; intro v w1 hS hb hg_ hnew_; clear hg_ hnew_; have HT := Lib.hid (T_fresh hS); have HB := Lib.hid hb; clear hS hb))
  rw [Int.toNat_natCast] at HT
  obtain ⟨A1, c1, hv, hc1⟩ := T_slice HT.out
  rw [List.length_replicate] at hv hc1
  subst hv
  have HC1 := Lib.hid hc1
  clear hc1
  go_loopw [4] (fun v4 wr => ∃ (p q : List ByteArray), v4 = .int .i64 p.length ∧ Hid (l0 = p ++ q) ∧ Hid (T Kd.string 9 wr 0 (fun k => w.heap.size ≤ k ∧ k < wr.heap.size) (.slice A1 l0.length c1) (p ++ List.replicate q.length ⟨#[]⟩)) ∧ Hid (Below w.heap.size w wr)) (fun v4 _ => l0.length - (intOf v4).toNat)
  case atStart => exact ⟨[], l0, rfl, Lib.hid rfl, HT, HB⟩
  case round =>
    obtain ⟨p, q, rfl, HL, HT, HB⟩ := hrel
    cases q with
    | nil =>
      have hl : p.length = l0.length := by rw [HL.out]; simp
      have HL2 := Lib.hid hl
      clear hl
      rw [HL2.out]
      go_wp2
      go_ret
      refine ⟨_, rfl, ?_, HB.out⟩
      have h := T_mono HT.out (ok' := fun k => w.heap.size ≤ k) (fun k hk => hk.1)
      rw [HL.out]
      rw [HL.out] at h
      simpa using h
    | cons x q =>
      have hll : l0.length = p.length + (q.length + 1) := by rw [HL.out]; simp
      have hl : p.length < l0.length := by omega
      have HLL := Lib.hid hll
      clear hll
      obtain ⟨ad, rfl, hcell0⟩ := Kd.at_string (Kd.C_below HR.out HB.out) (p.length : Int) (by omega) (by omega)
      have hcell : wr.cell? (ad.add p.length) = some (.string x) := by
        rw [HL.out] at hcell0
        simpa [rdOf] using hcell0
      clear hcell0
      obtain ⟨g, o, rfl⟩ := T_addr HT.out (by simp; omega)
      obtain ⟨F, cs, hF, hcl, hcc, hfr, hM, hlt, hg, hback⟩ := T_inner HT.out p.length ⟨#[]⟩ (by simp)
      obtain rfl : cs = [.string ⟨#[]⟩] := hM
      have hx0 : wr.cell? ⟨g, o + p.length, none⟩ = some (.string ⟨#[]⟩) := by
        have := hcc 0 _ rfl
        rwa [show (Kd.string).sz = 1 from rfl, Nat.mul_one] at this
      have hf0 := hfr (o + p.length)
      have HG := Lib.hid hg
      clear hF hcl hcc hfr hlt hg hback F
      have HT1 := Lib.hid (T_put1 HT.out p.length 0 ⟨#[]⟩ x (by simp) (.string x) (by decide) (o + p.length) (by show _ = o + p.length * 1 + 0; omega) (fun F cs h => by rw [h]; rfl))
      have HB1 := Lib.hid (HB.out.setCell (p := ⟨g, o + p.length, none⟩) HG.out.1 (.string x))
      go_wp2_with fail
      go_roundw
      case rel =>
        refine ⟨p ++ [x], q, ?_, Lib.hid (by rw [HL.out]; simp), Lib.hid ?_, HB1⟩
        · simp
        · have h := HT1.out
          rw [List.length_cons, List.replicate_succ, done_set] at h
          rw [size_set]
          exact h
      case measure => simp [intOf]; omega

/-! ### impl.Message -/
def okMsg (x : S140) : Prop := x.f1.length ≤ 4194304
def okMsgS (l : List S140) : Prop := l.length ≤ 4194304 ∧ ∀ x ∈ l, okMsg x
def cvMsg (x : S140) : S112 := ⟨x.f0, x.f1, x.f2⟩
def cvMsgS (l : List S140) : List S112 := l.map cvMsg
set_option maxRecDepth 100000 in
set_option maxHeartbeats 4000000 in
theorem to_Msg (x : S140) (A1 : Option Addr) (c1 : Nat) (w0 w : World) (hr1 : Kd.C Kd.string w0 A1 x.f1.length x.f1) (hc1 : x.f1.length ≤ c1) (hw : Below w0.heap.size w0 w) (hs : okMsg x) :
    Calls Tryd.prog 109 #[.agg #[.int .i64 x.f0, .slice A1 x.f1.length c1, .bool x.f2]] w fun e w' => ∃ v1, e = .returned (.agg #[.int .i64 x.f0, v1, .bool x.f2]) ∧ T Kd.string 9 w' 0 (fun k => w.heap.size ≤ k) v1 x.f1 ∧ Below w.heap.size w w' := by
  have HR1 := Lib.hid (Kd.C_below hr1 hw)
  have HC1 := Lib.hid hc1
  have HS := Lib.hid hs
  clear hw hs hr1 hc1
  go_enter Tryd.func109, Tryd.ntmps109
  go_wp2_with fail
  refine (to_str x.f1 A1 c1 w _ HR1.out ?side HS.out).mono ?_
  case side => repeat (first | exact Below.refl _ _ | apply below_alloc)
  rintro e w1 ⟨v1, rfl, hT, hb⟩
  obtain ⟨A9, c9, rfl, hl9⟩ := T_slice hT
  have HT := Lib.hid hT
  have HB := Lib.hid hb
  obtain ⟨hc, hf⟩ := bcell hb
  clear hT hb hl9
  go_wp2_with fail
  have HB2 : Below w.heap.size w w1 := below_then (by repeat (first | exact Below.refl _ _ | apply below_alloc)) (by simp <;> omega) HB.out
  have HT2 := T_mono HT.out (ok' := fun k => w.heap.size + 3 ≤ k) (fun k hk => by simp at hk; omega)
  refine bodyPost_ret (v := .agg #[.int .i64 x.f0, .slice A9 x.f1.length c9, .bool x.f2]) (by simp [results, Tryd.results109, go_sem, hc]) rfl ⟨_, rfl, ?_, ?_⟩
  · refine T_mono (ok := fun k => w.heap.size + 3 ≤ k) ?_ (fun k hk => by omega)
    repeat (first | with_reducible exact HT2 | with_reducible refine T_far ?_ (fun k hk => by simp; omega) _)
  · repeat (first | with_reducible exact HB2 | with_reducible refine Below.setCell ?_ (by simp <;> omega) _)
def zzMsg : S112 := ⟨0, [], false⟩
set_option maxRecDepth 100000 in
set_option maxHeartbeats 4000000 in
theorem to_MsgS (l0 : List S140) (A : Option Addr) (c : Nat) (w0 w : World) (hr : Kd.C k140 w0 A l0.length l0) (hc : l0.length ≤ c) (hw : Below w0.heap.size w0 w) (hs : okMsgS l0) :
    Calls Tryd.prog 100 #[.slice A l0.length c] w fun e w' => ∃ v, e = .returned v ∧ T m112 112 w' 0 (fun k => w.heap.size ≤ k) v (cvMsgS l0) ∧ Below w.heap.size w w' := by
  have HR := Lib.hid (Kd.C_below hr hw)
  have hsl := hs.1
  have HS := Lib.hid hs.2
  clear hr hw hs
  go_enter Tryd.func100, Tryd.ntmps100
  go_wp2_with (first | ((with_reducible refine gate_dst (N := 7) rfl ?_); refine Kd.S_make m112 _ 112 rfl (N := 7) rfl 74 _ _ rfl (l0.length : Int) rfl rfl Tryd.underlying74 (.agg #[.int .i64 0, .slice none 0 0, .bool false]) 40 info112 rfl (by decide) (by omega) zzMsg (ok := fun _ => True) (okp := fun _ => True) (m112_mk zzMsg (T_nil _ _ _ _ _ _ _)) (fun _ hk => hk) trivial (by omega) (by omega) (Below.refl _ _) (Nat.le_refl _) ?_; intro v w1 hS hb hg_ hnew_; clear hg_ hnew_; have HT := Lib.hid (T_fresh hS); have HB := Lib.hid hb; clear hS hb))
  rw [Int.toNat_natCast] at HT
  obtain ⟨A1, c1, hv, hc1⟩ := T_slice HT.out
  rw [List.length_replicate] at hv hc1
  subst hv
  have HC1 := Lib.hid hc1
  clear hc1
  go_loopw [4] (fun v4 wr => ∃ (p q : List S140), v4 = .int .i64 p.length ∧ Hid (l0 = p ++ q) ∧ Hid (T m112 112 wr 0 (fun k => w.heap.size ≤ k ∧ k < wr.heap.size) (.slice A1 l0.length c1) (cvMsgS p ++ List.replicate q.length zzMsg)) ∧ Hid (Below w.heap.size w wr)) (fun v4 _ => l0.length - (intOf v4).toNat)
  case atStart => exact ⟨[], l0, rfl, Lib.hid rfl, HT, HB⟩
  case round =>
    obtain ⟨p, q, rfl, HL, HT, HB⟩ := hrel
    cases q with
    | nil =>
      have hl : p.length = l0.length := by rw [HL.out]; simp
      have HL2 := Lib.hid hl
      clear hl
      rw [HL2.out]
      go_wp2
      go_ret
      refine ⟨_, rfl, ?_, HB.out⟩
      have h := T_mono HT.out (ok' := fun k => w.heap.size ≤ k) (fun k hk => hk.1)
      rw [HL.out]
      rw [HL.out] at h
      simpa using h
    | cons x q =>
      have hll : l0.length = p.length + (q.length + 1) := by rw [HL.out]; simp
      have hl : p.length < l0.length := by omega
      have HLL := Lib.hid hll
      clear hll
      have hok : okMsg x := HS.out x (by rw [HL.out]; simp)
      have HOK := Lib.hid hok
      clear hok
      have hrd : rd_T140 l0 (p.length : Int) = x := by rw [HL.out]; simp [rd_T140]
      obtain ⟨ad, B1, d1, had, hy0, hy1, hy2, hl1, hr1⟩ := at_T140 (Kd.C_below HR.out HB.out) (p.length : Int) (by omega) (by omega)
      subst had
      rw [Int.toNat_natCast] at hy0 hy1 hy2
      rw [hrd] at hy0 hy1 hy2 hl1 hr1
      have HRj1 := Lib.hid hr1
      have HLj1 := Lib.hid hl1
      clear hr1 hl1
      clear hrd
      go_wp2_with fail
      refine (to_Msg x B1 d1 wr _ HRj1.out HLj1.out (Below.refl _ _) HOK.out).mono ?_
      rintro e w2 ⟨v1, rfl, hT2, hb2⟩
      obtain ⟨A9, c9, rfl, hl9⟩ := T_slice hT2
      have HT2 := Lib.hid (T_now hT2)
      clear hT2 hl9
      have HT1 := Lib.hid (T_mono (T_old HT.out hb2) (ok' := fun k => w.heap.size ≤ k ∧ k < wr.heap.size) (fun k hk => ⟨hk.1.1, hk.2⟩))
      have hsz := hb2.size
      have HSZ := Lib.hid hsz
      have HB1 := Lib.hid (below_then HB.out HB.out.size hb2)
      clear hb2 hsz hy0 hy1 hy2 HT
      obtain ⟨g, o, rfl⟩ := T_addr HT1.out (by simp <;> omega)
      obtain ⟨F, cs, hF, hcl, hcc, hfr, hM, hlt, hg, hback⟩ := T_inner HT1.out p.length zzMsg (by simp [cvMsgS])
      obtain ⟨y1, rfl, hv1⟩ := m112_open hM
      have hx0 : w2.cell? ⟨g, o + p.length * 3, none⟩ = some (.int .i64 0) := hcc 0 _ rfl
      have hf0 := hfr (o + p.length * 3)
      have hx1 : w2.cell? ⟨g, o + p.length * 3 + 1, none⟩ = some (y1) := hcc 1 _ rfl
      have hf1 := hfr (o + p.length * 3 + 1)
      have hx2 : w2.cell? ⟨g, o + p.length * 3 + 2, none⟩ = some (.bool false) := hcc 2 _ rfl
      have hf2 := hfr (o + p.length * 3 + 2)
      have HG := Lib.hid hg
      clear hF hcl hcc hfr hM hlt hg hback F hv1
      have HT3 := T_set (okp := fun k => wr.heap.size ≤ k ∧ 0 ≤ k ∧ k < w2.heap.size) (ok1 := fun k => w.heap.size ≤ k ∧ k < w2.heap.size) HT1.out p.length zzMsg (cvMsg x) (by simp [cvMsgS]) _ (m112_mk (cvMsg x) HT2.out) (fun k hk => ⟨fun h => by omega, ⟨Nat.le_trans HB.out.size hk.1, hk.2.2⟩, by have := HG.out.2; omega⟩) (fun k hk => ⟨hk.1, Nat.lt_of_lt_of_le hk.2 HSZ.out⟩) (o + p.length * 3) rfl
      have HB3 := HB1.out
      replace HT3 := Lib.hid HT3
      replace HB3 := Lib.hid HB3
      go_wp2_with fail
      go_roundw
      case rel =>
        refine ⟨p ++ [x], q, ?_, Lib.hid (by rw [HL.out]; simp), Lib.hid ?_, Lib.hid ?_⟩
        · simp
        · have h := HT3.out
          have e : (cvMsgS p ++ List.replicate (x :: q).length zzMsg).set p.length (cvMsg x) = cvMsgS (p ++ [x]) ++ List.replicate q.length zzMsg := by
            have h2 := done_set (cvMsgS p) zzMsg (cvMsg x) (List.replicate q.length zzMsg)
            have hl2 : (cvMsgS p).length = p.length := by simp [cvMsgS]
            rw [hl2] at h2
            rw [List.length_cons, List.replicate_succ, h2]
            simp [cvMsgS]
          rw [e] at h
          simp only [size_set]
          exact h
        · repeat (first | with_reducible exact HB3.out | with_reducible refine Below.setCell ?_ HG.out.1 _)
      case measure => simp [intOf]; omega
/-! ### impl.Watch -/
def okWat (x : S105) : Prop := okMsgS x.f5
def okWatS (l : List S105) : Prop := l.length ≤ 4194304 ∧ ∀ x ∈ l, okWat x
def cvWat (x : S105) : S76 := ⟨x.f0, x.f1, x.f2, x.f3, x.f4, (cvMsgS x.f5)⟩
def cvWatS (l : List S105) : List S76 := l.map cvWat
set_option maxRecDepth 100000 in
set_option maxHeartbeats 4000000 in
theorem to_Wat (x : S105) (A5 : Option Addr) (c5 : Nat) (w0 w : World) (hr5 : Kd.C k140 w0 A5 x.f5.length x.f5) (hc5 : x.f5.length ≤ c5) (hw : Below w0.heap.size w0 w) (hs : okWat x) :
    Calls Tryd.prog 77 #[.agg #[.int .i64 x.f0, .string x.f1, .int .i64 x.f2, .int .i64 x.f3, .bool x.f4, .slice A5 x.f5.length c5]] w fun e w' => ∃ v5, e = .returned (.agg #[.int .i64 x.f0, .string x.f1, .int .i64 x.f2, .int .i64 x.f3, .bool x.f4, v5]) ∧ T m112 112 w' 0 (fun k => w.heap.size ≤ k) v5 (cvMsgS x.f5) ∧ Below w.heap.size w w' := by
  have HR5 := Lib.hid (Kd.C_below hr5 hw)
  have HC5 := Lib.hid hc5
  have HS := Lib.hid hs
  clear hw hs hr5 hc5
  go_enter Tryd.func77, Tryd.ntmps77
  go_wp2_with fail
  refine (to_MsgS x.f5 A5 c5 w _ HR5.out HC5.out ?side HS.out).mono ?_
  case side => repeat (first | exact Below.refl _ _ | apply below_alloc)
  rintro e w1 ⟨v1, rfl, hT, hb⟩
  obtain ⟨A9, c9, rfl, hl9⟩ := T_slice hT
  have HLn := Lib.hid (show (cvMsgS x.f5).length = x.f5.length by simp [cvMsgS])
  have HT := Lib.hid hT
  have HB := Lib.hid hb
  obtain ⟨hc, hf⟩ := bcell hb
  clear hT hb hl9
  go_wp2_with fail
  have HB2 : Below w.heap.size w w1 := below_then (by repeat (first | exact Below.refl _ _ | apply below_alloc)) (by simp <;> omega) HB.out
  have HT2 := T_mono HT.out (ok' := fun k => w.heap.size + 3 ≤ k) (fun k hk => by simp at hk; omega)
  refine bodyPost_ret (v := .agg #[.int .i64 x.f0, .string x.f1, .int .i64 x.f2, .int .i64 x.f3, .bool x.f4, .slice A9 (cvMsgS x.f5).length c9]) (by simp [results, Tryd.results77, go_sem, hc]) rfl ⟨_, rfl, ?_, ?_⟩
  · refine T_mono (ok := fun k => w.heap.size + 3 ≤ k) ?_ (fun k hk => by omega)
    repeat (first | with_reducible exact HT2 | with_reducible refine T_far ?_ (fun k hk => by simp; omega) _)
  · repeat (first | with_reducible exact HB2 | with_reducible refine Below.setCell ?_ (by simp <;> omega) _)
def zzWat : S76 := ⟨0, ⟨#[]⟩, 0, 0, false, []⟩
set_option maxRecDepth 100000 in
set_option maxHeartbeats 4000000 in
theorem to_WatS (l0 : List S105) (A : Option Addr) (c : Nat) (w0 w : World) (hr : Kd.C k105 w0 A l0.length l0) (hc : l0.length ≤ c) (hw : Below w0.heap.size w0 w) (hs : okWatS l0) :
    Calls Tryd.prog 51 #[.slice A l0.length c] w fun e w' => ∃ v, e = .returned v ∧ T m76 76 w' 0 (fun k => w.heap.size ≤ k) v (cvWatS l0) ∧ Below w.heap.size w w' := by
  have HR := Lib.hid (Kd.C_below hr hw)
  have hsl := hs.1
  have HS := Lib.hid hs.2
  clear hr hw hs
  go_enter Tryd.func51, Tryd.ntmps51
  go_wp2_with (first | ((with_reducible refine gate_dst (N := 7) rfl ?_); refine Kd.S_make m76 _ 76 rfl (N := 7) rfl 41 _ _ rfl (l0.length : Int) rfl rfl Tryd.underlying41 (.agg #[.int .i64 0, .string ⟨#[]⟩, .int .i64 0, .int .i64 0, .bool false, .slice none 0 0]) 72 info76 rfl (by decide) (by omega) zzWat (ok := fun _ => True) (okp := fun _ => True) (m76_mk zzWat (T_nil _ _ _ _ _ _ _)) (fun _ hk => hk) trivial (by omega) (by omega) (Below.refl _ _) (Nat.le_refl _) ?_; intro v w1 hS hb hg_ hnew_; clear hg_ hnew_; have HT := Lib.hid (T_fresh hS); have HB := Lib.hid hb; clear hS hb))
  rw [Int.toNat_natCast] at HT
  obtain ⟨A1, c1, hv, hc1⟩ := T_slice HT.out
  rw [List.length_replicate] at hv hc1
  subst hv
  have HC1 := Lib.hid hc1
  clear hc1
  go_loopw [4] (fun v4 wr => ∃ (p q : List S105), v4 = .int .i64 p.length ∧ Hid (l0 = p ++ q) ∧ Hid (T m76 76 wr 0 (fun k => w.heap.size ≤ k ∧ k < wr.heap.size) (.slice A1 l0.length c1) (cvWatS p ++ List.replicate q.length zzWat)) ∧ Hid (Below w.heap.size w wr)) (fun v4 _ => l0.length - (intOf v4).toNat)
  case atStart => exact ⟨[], l0, rfl, Lib.hid rfl, HT, HB⟩
  case round =>
    obtain ⟨p, q, rfl, HL, HT, HB⟩ := hrel
    cases q with
    | nil =>
      have hl : p.length = l0.length := by rw [HL.out]; simp
      have HL2 := Lib.hid hl
      clear hl
      rw [HL2.out]
      go_wp2
      go_ret
      refine ⟨_, rfl, ?_, HB.out⟩
      have h := T_mono HT.out (ok' := fun k => w.heap.size ≤ k) (fun k hk => hk.1)
      rw [HL.out]
      rw [HL.out] at h
      simpa using h
    | cons x q =>
      have hll : l0.length = p.length + (q.length + 1) := by rw [HL.out]; simp
      have hl : p.length < l0.length := by omega
      have HLL := Lib.hid hll
      clear hll
      have hok : okWat x := HS.out x (by rw [HL.out]; simp)
      have HOK := Lib.hid hok
      clear hok
      have hrd : rd_T105 l0 (p.length : Int) = x := by rw [HL.out]; simp [rd_T105]
      obtain ⟨ad, B5, d5, had, hy0, hy1, hy2, hy3, hy4, hy5, hl5, hr5⟩ := at_T105 (Kd.C_below HR.out HB.out) (p.length : Int) (by omega) (by omega)
      subst had
      rw [Int.toNat_natCast] at hy0 hy1 hy2 hy3 hy4 hy5
      rw [hrd] at hy0 hy1 hy2 hy3 hy4 hy5 hl5 hr5
      have HRj5 := Lib.hid hr5
      have HLj5 := Lib.hid hl5
      clear hr5 hl5
      clear hrd
      go_wp2_with fail
      refine (to_Wat x B5 d5 wr _ HRj5.out HLj5.out (Below.refl _ _) HOK.out).mono ?_
      rintro e w2 ⟨v5, rfl, hT2, hb2⟩
      obtain ⟨A9, c9, rfl, hl9⟩ := T_slice hT2
      have HT2 := Lib.hid (T_now hT2)
      clear hT2 hl9
      have HT1 := Lib.hid (T_mono (T_old HT.out hb2) (ok' := fun k => w.heap.size ≤ k ∧ k < wr.heap.size) (fun k hk => ⟨hk.1.1, hk.2⟩))
      have hsz := hb2.size
      have HSZ := Lib.hid hsz
      have HB1 := Lib.hid (below_then HB.out HB.out.size hb2)
      clear hb2 hsz hy0 hy1 hy2 hy3 hy4 hy5 HT
      obtain ⟨g, o, rfl⟩ := T_addr HT1.out (by simp <;> omega)
      obtain ⟨F, cs, hF, hcl, hcc, hfr, hM, hlt, hg, hback⟩ := T_inner HT1.out p.length zzWat (by simp [cvWatS])
      obtain ⟨y5, rfl, hv5⟩ := m76_open hM
      have hx0 : w2.cell? ⟨g, o + p.length * 6, none⟩ = some (.int .i64 0) := hcc 0 _ rfl
      have hf0 := hfr (o + p.length * 6)
      have hx1 : w2.cell? ⟨g, o + p.length * 6 + 1, none⟩ = some (.string ⟨#[]⟩) := hcc 1 _ rfl
      have hf1 := hfr (o + p.length * 6 + 1)
      have hx2 : w2.cell? ⟨g, o + p.length * 6 + 2, none⟩ = some (.int .i64 0) := hcc 2 _ rfl
      have hf2 := hfr (o + p.length * 6 + 2)
      have hx3 : w2.cell? ⟨g, o + p.length * 6 + 3, none⟩ = some (.int .i64 0) := hcc 3 _ rfl
      have hf3 := hfr (o + p.length * 6 + 3)
      have hx4 : w2.cell? ⟨g, o + p.length * 6 + 4, none⟩ = some (.bool false) := hcc 4 _ rfl
      have hf4 := hfr (o + p.length * 6 + 4)
      have hx5 : w2.cell? ⟨g, o + p.length * 6 + 5, none⟩ = some (y5) := hcc 5 _ rfl
      have hf5 := hfr (o + p.length * 6 + 5)
      have HG := Lib.hid hg
      clear hF hcl hcc hfr hM hlt hg hback F hv5
      have HT3 := T_set (okp := fun k => wr.heap.size ≤ k ∧ 0 ≤ k ∧ k < w2.heap.size) (ok1 := fun k => w.heap.size ≤ k ∧ k < w2.heap.size) HT1.out p.length zzWat (cvWat x) (by simp [cvWatS]) _ (m76_mk (cvWat x) HT2.out) (fun k hk => ⟨fun h => by omega, ⟨Nat.le_trans HB.out.size hk.1, hk.2.2⟩, by have := HG.out.2; omega⟩) (fun k hk => ⟨hk.1, Nat.lt_of_lt_of_le hk.2 HSZ.out⟩) (o + p.length * 6) rfl
      have HB3 := HB1.out
      replace HT3 := Lib.hid HT3
      replace HB3 := Lib.hid HB3
      go_wp2_with fail
      go_roundw
      case rel =>
        refine ⟨p ++ [x], q, ?_, Lib.hid (by rw [HL.out]; simp), Lib.hid ?_, Lib.hid ?_⟩
        · simp
        · have h := HT3.out
          have e : (cvWatS p ++ List.replicate (x :: q).length zzWat).set p.length (cvWat x) = cvWatS (p ++ [x]) ++ List.replicate q.length zzWat := by
            have h2 := done_set (cvWatS p) zzWat (cvWat x) (List.replicate q.length zzWat)
            have hl2 : (cvWatS p).length = p.length := by simp [cvWatS]
            rw [hl2] at h2
            rw [List.length_cons, List.replicate_succ, h2]
            simp [cvWatS]
          rw [e] at h
          simp only [size_set]
          exact h
        · repeat (first | with_reducible exact HB3.out | with_reducible refine Below.setCell ?_ HG.out.1 _)
      case measure => simp [intOf]; omega
/-! ### impl.News -/
def okNew (x : S107) : Prop := x.f1.length ≤ 4194304
def okNewS (l : List S107) : Prop := l.length ≤ 4194304 ∧ ∀ x ∈ l, okNew x
def cvNew (x : S107) : S87 := ⟨x.f0, x.f1⟩
def cvNewS (l : List S107) : List S87 := l.map cvNew
set_option maxRecDepth 100000 in
set_option maxHeartbeats 4000000 in
theorem to_New (x : S107) (A1 : Option Addr) (c1 : Nat) (w0 w : World) (hr1 : Kd.C Kd.string w0 A1 x.f1.length x.f1) (hc1 : x.f1.length ≤ c1) (hw : Below w0.heap.size w0 w) (hs : okNew x) :
    Calls Tryd.prog 78 #[.agg #[.int .i64 x.f0, .slice A1 x.f1.length c1]] w fun e w' => ∃ v1, e = .returned (.agg #[.int .i64 x.f0, v1]) ∧ T Kd.string 9 w' 0 (fun k => w.heap.size ≤ k) v1 x.f1 ∧ Below w.heap.size w w' := by
  have HR1 := Lib.hid (Kd.C_below hr1 hw)
  have HC1 := Lib.hid hc1
  have HS := Lib.hid hs
  clear hw hs hr1 hc1
  go_enter Tryd.func78, Tryd.ntmps78
  go_wp2_with fail
  refine (to_str x.f1 A1 c1 w _ HR1.out ?side HS.out).mono ?_
  case side => repeat (first | exact Below.refl _ _ | apply below_alloc)
  rintro e w1 ⟨v1, rfl, hT, hb⟩
  obtain ⟨A9, c9, rfl, hl9⟩ := T_slice hT
  have HT := Lib.hid hT
  have HB := Lib.hid hb
  obtain ⟨hc, hf⟩ := bcell hb
  clear hT hb hl9
  go_wp2_with fail
  have HB2 : Below w.heap.size w w1 := below_then (by repeat (first | exact Below.refl _ _ | apply below_alloc)) (by simp <;> omega) HB.out
  have HT2 := T_mono HT.out (ok' := fun k => w.heap.size + 3 ≤ k) (fun k hk => by simp at hk; omega)
  refine bodyPost_ret (v := .agg #[.int .i64 x.f0, .slice A9 x.f1.length c9]) (by simp [results, Tryd.results78, go_sem, hc]) rfl ⟨_, rfl, ?_, ?_⟩
  · refine T_mono (ok := fun k => w.heap.size + 3 ≤ k) ?_ (fun k hk => by omega)
    repeat (first | with_reducible exact HT2 | with_reducible refine T_far ?_ (fun k hk => by simp; omega) _)
  · repeat (first | with_reducible exact HB2 | with_reducible refine Below.setCell ?_ (by simp <;> omega) _)
def zzNew : S87 := ⟨0, []⟩
set_option maxRecDepth 100000 in
set_option maxHeartbeats 4000000 in
theorem to_NewS (l0 : List S107) (A : Option Addr) (c : Nat) (w0 w : World) (hr : Kd.C k107 w0 A l0.length l0) (hc : l0.length ≤ c) (hw : Below w0.heap.size w0 w) (hs : okNewS l0) :
    Calls Tryd.prog 52 #[.slice A l0.length c] w fun e w' => ∃ v, e = .returned v ∧ T m87 87 w' 0 (fun k => w.heap.size ≤ k) v (cvNewS l0) ∧ Below w.heap.size w w' := by
  have HR := Lib.hid (Kd.C_below hr hw)
  have hsl := hs.1
  have HS := Lib.hid hs.2
  clear hr hw hs
  go_enter Tryd.func52, Tryd.ntmps52
  go_wp2_with (first | ((with_reducible refine gate_dst (N := 7) rfl ?_); refine Kd.S_make m87 _ 87 rfl (N := 7) rfl 42 _ _ rfl (l0.length : Int) rfl rfl Tryd.underlying42 (.agg #[.int .i64 0, .slice none 0 0]) 32 info87 rfl (by decide) (by omega) zzNew (ok := fun _ => True) (okp := fun _ => True) (m87_mk zzNew (T_nil _ _ _ _ _ _ _)) (fun _ hk => hk) trivial (by omega) (by omega) (Below.refl _ _) (Nat.le_refl _) ?_; intro v w1 hS hb hg_ hnew_; clear hg_ hnew_; have HT := Lib.hid (T_fresh hS); have HB := Lib.hid hb; clear hS hb))
  rw [Int.toNat_natCast] at HT
  obtain ⟨A1, c1, hv, hc1⟩ := T_slice HT.out
  rw [List.length_replicate] at hv hc1
  subst hv
  have HC1 := Lib.hid hc1
  clear hc1
  go_loopw [4] (fun v4 wr => ∃ (p q : List S107), v4 = .int .i64 p.length ∧ Hid (l0 = p ++ q) ∧ Hid (T m87 87 wr 0 (fun k => w.heap.size ≤ k ∧ k < wr.heap.size) (.slice A1 l0.length c1) (cvNewS p ++ List.replicate q.length zzNew)) ∧ Hid (Below w.heap.size w wr)) (fun v4 _ => l0.length - (intOf v4).toNat)
  case atStart => exact ⟨[], l0, rfl, Lib.hid rfl, HT, HB⟩
  case round =>
    obtain ⟨p, q, rfl, HL, HT, HB⟩ := hrel
    cases q with
    | nil =>
      have hl : p.length = l0.length := by rw [HL.out]; simp
      have HL2 := Lib.hid hl
      clear hl
      rw [HL2.out]
      go_wp2
      go_ret
      refine ⟨_, rfl, ?_, HB.out⟩
      have h := T_mono HT.out (ok' := fun k => w.heap.size ≤ k) (fun k hk => hk.1)
      rw [HL.out]
      rw [HL.out] at h
      simpa using h
    | cons x q =>
      have hll : l0.length = p.length + (q.length + 1) := by rw [HL.out]; simp
      have hl : p.length < l0.length := by omega
      have HLL := Lib.hid hll
      clear hll
      have hok : okNew x := HS.out x (by rw [HL.out]; simp)
      have HOK := Lib.hid hok
      clear hok
      have hrd : rd_T107 l0 (p.length : Int) = x := by rw [HL.out]; simp [rd_T107]
      obtain ⟨ad, B1, d1, had, hy0, hy1, hl1, hr1⟩ := at_T107 (Kd.C_below HR.out HB.out) (p.length : Int) (by omega) (by omega)
      subst had
      rw [Int.toNat_natCast] at hy0 hy1
      rw [hrd] at hy0 hy1 hl1 hr1
      have HRj1 := Lib.hid hr1
      have HLj1 := Lib.hid hl1
      clear hr1 hl1
      clear hrd
      go_wp2_with fail
      refine (to_New x B1 d1 wr _ HRj1.out HLj1.out (Below.refl _ _) HOK.out).mono ?_
      rintro e w2 ⟨v1, rfl, hT2, hb2⟩
      obtain ⟨A9, c9, rfl, hl9⟩ := T_slice hT2
      have HT2 := Lib.hid (T_now hT2)
      clear hT2 hl9
      have HT1 := Lib.hid (T_mono (T_old HT.out hb2) (ok' := fun k => w.heap.size ≤ k ∧ k < wr.heap.size) (fun k hk => ⟨hk.1.1, hk.2⟩))
      have hsz := hb2.size
      have HSZ := Lib.hid hsz
      have HB1 := Lib.hid (below_then HB.out HB.out.size hb2)
      clear hb2 hsz hy0 hy1 HT
      obtain ⟨g, o, rfl⟩ := T_addr HT1.out (by simp <;> omega)
      obtain ⟨F, cs, hF, hcl, hcc, hfr, hM, hlt, hg, hback⟩ := T_inner HT1.out p.length zzNew (by simp [cvNewS])
      obtain ⟨y1, rfl, hv1⟩ := m87_open hM
      have hx0 : w2.cell? ⟨g, o + p.length * 2, none⟩ = some (.int .i64 0) := hcc 0 _ rfl
      have hf0 := hfr (o + p.length * 2)
      have hx1 : w2.cell? ⟨g, o + p.length * 2 + 1, none⟩ = some (y1) := hcc 1 _ rfl
      have hf1 := hfr (o + p.length * 2 + 1)
      have HG := Lib.hid hg
      clear hF hcl hcc hfr hM hlt hg hback F hv1
      have HT3 := T_set (okp := fun k => wr.heap.size ≤ k ∧ 0 ≤ k ∧ k < w2.heap.size) (ok1 := fun k => w.heap.size ≤ k ∧ k < w2.heap.size) HT1.out p.length zzNew (cvNew x) (by simp [cvNewS]) _ (m87_mk (cvNew x) HT2.out) (fun k hk => ⟨fun h => by omega, ⟨Nat.le_trans HB.out.size hk.1, hk.2.2⟩, by have := HG.out.2; omega⟩) (fun k hk => ⟨hk.1, Nat.lt_of_lt_of_le hk.2 HSZ.out⟩) (o + p.length * 2) rfl
      have HB3 := HB1.out
      replace HT3 := Lib.hid HT3
      replace HB3 := Lib.hid HB3
      go_wp2_with fail
      go_roundw
      case rel =>
        refine ⟨p ++ [x], q, ?_, Lib.hid (by rw [HL.out]; simp), Lib.hid ?_, Lib.hid ?_⟩
        · simp
        · have h := HT3.out
          have e : (cvNewS p ++ List.replicate (x :: q).length zzNew).set p.length (cvNew x) = cvNewS (p ++ [x]) ++ List.replicate q.length zzNew := by
            have h2 := done_set (cvNewS p) zzNew (cvNew x) (List.replicate q.length zzNew)
            have hl2 : (cvNewS p).length = p.length := by simp [cvNewS]
            rw [hl2] at h2
            rw [List.length_cons, List.replicate_succ, h2]
            simp [cvNewS]
          rw [e] at h
          simp only [size_set]
          exact h
        · repeat (first | with_reducible exact HB3.out | with_reducible refine Below.setCell ?_ HG.out.1 _)
      case measure => simp [intOf]; omega
end Go.Proofs.YtmphkhkbegihaaaDoor.To
