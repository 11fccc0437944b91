/-
  Contracts, by hand, of the functions of this seat that the print does not take, each in the print's own form; those that read the library's variable bytealg.MaxLen ask that its cell holds a number (GM), which every later world keeps.
-/
import Derived.Test.YtmphkhkbegihaaaDoorProg
import Derived.Test.YtmphkhkbegihaaaDoorShelf
import Derived.Test.YtmphkhkbegihaaaDoorShelf2
import Derived.Test.YtmphkhkbegihaaaDoorWWords
import Derived.WalkKit
import Derived.LoopTactic
import Derived.Lib.Hide
import Derived.Lib.IndexMore
import Derived.Outline
namespace Go.Proofs.YtmphkhkbegihaaaDoor.Own
open Go.RowKit Go.Proofs.YtmphkhkbegihaaaDoorW.PrintWords
set_option linter.unusedVariables false

/-- The library's variable bytealg.MaxLen holds some number. -/
def GM (w : World) : Prop := ∃ m, w.cell? ⟨0, 0, none⟩ = some (.int .i64 m)
theorem GM.of {w w1 : World} (h : GM w) (hb : Below w.heap.size w w1) : GM w1 := by
  obtain ⟨m, hm⟩ := h
  exact ⟨m, pw_cell_below hb hm⟩

def strings_ReplaceAll.f (a0 a1 a2 : ByteArray) : Option ByteArray :=
  if a0.size < 4294967281 ∧ 1 ≤ a1.size ∧ a0.size + Lib.countB a0 a1 * a2.size ≤ 140737488355328 then some ⟨(Lib.replaceAll a0.data.toList a1.data.toList a2.data.toList).toArray⟩ else none
theorem strings_ReplaceAll.calls (a0 a1 a2 : ByteArray) (r : ByteArray) (w : World) (hG : GM w) (h : strings_ReplaceAll.f a0 a1 a2 = some r) :
    Calls Tryd.prog 36 #[.string a0, .string a1, .string a2] w fun e w' => e = .returned (.string r) ∧ Below w.heap.size w w' := by
  unfold strings_ReplaceAll.f at h
  split at h
  · rename_i hc
    obtain rfl := Option.some.inj h
    obtain ⟨m, hm⟩ := hG
    exact Tryd.strings_ReplaceAll a0 a1 a2 m w hc.1 hm hc.2.1 hc.2.2
  · cases h

def strings_Split.f (a0 a1 : ByteArray) : Option (List ByteArray) :=
  if a0.size < 4294967281 ∧ 1 ≤ a1.size then some (Lib.splitB a1 0 (Lib.countB a0 a1) a0) else none
theorem strings_Split.calls (a0 a1 : ByteArray) (r : List ByteArray) (w : World) (hG : GM w) (h : strings_Split.f a0 a1 = some r) :
    Calls Tryd.prog 39 #[.string a0, .string a1] w fun e w' => ∃ v0_ : Value, e = .returned (v0_) ∧ Kd.R Kd.string 9 w' w.heap.size (fun _ => True) v0_ r ∧ Below w.heap.size w w' := by
  unfold strings_Split.f at h
  split at h
  · rename_i hc
    obtain rfl := Option.some.inj h
    obtain ⟨m, hm⟩ := hG
    refine (Tryd.strings_Split a0 a1 m w hc.1 hm hc.2).mono ?_
    rintro e w' ⟨rfl, rfl⟩
    have hl := Lib.splitB_all a1 hc.2 0 (Lib.countB a0 a1) a0 rfl
    have hle := Lib.countB_le a1 hc.2 a0.size a0 (Nat.le_refl _)
    refine ⟨_, rfl, Kd.R_of_own (enc := Value.string) (h1 := fun _ => rfl) ?_ (fun _ _ => trivial), below_alloc (Below.refl _ _) _⟩
    rw [hl]
    refine ⟨by rw [encs, List.length_map, hl, Nat.mul_one], .inr ⟨w.heap.size, _, _, rfl, Nat.le_refl _, heap_alloc_new w _, Nat.le_refl _, by unfold maxLen; omega, by simp [hl], ?_⟩⟩
    rw [List.take_of_length_le (by simp [hl])]
    rfl
  · cases h

/-! ### impl.PtrText: a strings.Builder that is written in a loop -/
def szL : List ByteArray → Nat
  | [] => 0
  | t :: ts => 1 + t.size + szL ts
/-- No token is longer than a replacement may take. -/
def fitL (l : List ByteArray) : Prop := szL l ≤ 4194304
instance (l : List ByteArray) : Decidable (fitL l) := by unfold fitL; infer_instance
/-! ### impl.PtrTokens -/
/-- At i stands a '~' that is no escape. -/
def badTok (t : ByteArray) (i : Nat) : Bool := bt t i == 126 && (((i : Int) + 1 == t.size) || (bt t ((i : Int) + 1) != 48 && bt t ((i : Int) + 1) != 49))
/-- From i on, d bytes, no '~' is no escape. -/
def chk (t : ByteArray) : Nat → Nat → Bool
  | 0, _ => true
  | d + 1, i => if badTok t i = true then false else chk t d (i + 1)
/-- What a token stands for, by the library's words. -/
def unT (t : ByteArray) : ByteArray := ⟨(Lib.replaceAll (Lib.replaceAll t.data.toList [126, 49] [47]) [126, 48] [126]).toArray⟩
def parts (a0 : ByteArray) : List ByteArray := Lib.splitB ⟨#[47]⟩ 0 (Lib.countB (a0.extract 1 a0.size) ⟨#[47]⟩) (a0.extract 1 a0.size)
def goodT (t : ByteArray) : Bool := chk t t.size 0
def impl_PtrTokens.f (a0 : ByteArray) : Option (List ByteArray × Bool) :=
  if a0.size ≤ 4194304 then
    (if a0.size = 0 then some ([], true) else if bt a0 0 = 47 then (if (parts a0).all goodT then some ((parts a0).map unT, true) else some ([], false)) else some ([], false))
  else none

theorem splitB_size (sep : ByteArray) (h1 : 1 ≤ sep.size) : ∀ (k : Nat) (s : ByteArray) (t : ByteArray), t ∈ Lib.splitB sep 0 k s → t.size ≤ s.size
  | 0, s, t, h => by
    rw [Lib.splitB_zero] at h
    simp at h
    subst h
    exact Nat.le_refl _
  | k + 1, s, t, h => by
    by_cases hm : Lib.indexB s sep = -1
    · rw [Lib.splitB_miss sep 0 (k + 1) s hm] at h
      simp at h
      subst h
      exact Nat.le_refl _
    · have hge := Lib.index_ge s.data.toList sep.data.toList
      have hge2 : -1 ≤ Lib.indexB s sep := hge
      obtain ⟨i, hi⟩ : ∃ i : Nat, Lib.indexB s sep = i := ⟨(Lib.indexB s sep).toNat, by omega⟩
      rw [Lib.splitB_hit sep 0 k s i hi] at h
      rcases List.mem_cons.1 h with rfl | h
      · rw [ByteArray.size_extract]
        omega
      · have := splitB_size sep h1 k _ t h
        rw [ByteArray.size_extract] at this
        omega

theorem replaceK_le1 (old new : List UInt8) (h1 : old.length = 2) (h2 : new.length = 1) : ∀ (k : Nat) (s : List UInt8), (Lib.replaceK old new k s).length ≤ s.length
  | 0, s => by simp [Lib.replaceK]
  | k + 1, s => by
    rw [Lib.replaceK]
    split
    · omega
    · rename_i hm
      have hge := Lib.index_ge s old
      have hne : Lib.index s old ≠ -1 := by simpa using hm
      obtain ⟨i, hi⟩ : ∃ i : Nat, Lib.index s old = i := ⟨(Lib.index s old).toNat, by omega⟩
      have hroom := Lib.index_room s old (by omega)
      have ih := replaceK_le1 old new h1 h2 k (s.drop (i + old.length))
      rw [hi]
      rw [hi] at hroom
      simp only [Int.toNat_natCast, List.length_append, List.length_take, h2] at ih ⊢
      rw [List.length_drop] at ih
      omega
theorem replace_fits1 (a : ByteArray) (b d : UInt8) (h : a.size ≤ 100000000) : strings_ReplaceAll.f a ⟨#[126, b]⟩ ⟨#[d]⟩ = some ⟨(Lib.replaceAll a.data.toList [126, b] [d]).toArray⟩ := by
  unfold strings_ReplaceAll.f
  have h1 : (⟨#[126, b]⟩ : ByteArray).size = 2 := rfl
  have h2 : (⟨#[d]⟩ : ByteArray).size = 1 := rfl
  have hc := Lib.countB_le ⟨#[126, b]⟩ (by rw [h1]; omega) a.size a (Nat.le_refl _)
  rw [if_pos ⟨by omega, by omega, by rw [h2]; omega⟩]
theorem replaceAll_le1 (l : List UInt8) (old new : List UInt8) (h1 : old.length = 2) (h2 : new.length = 1) : (Lib.replaceAll l old new).length ≤ l.length := by
  unfold Lib.replaceAll Lib.replace
  split
  · omega
  · exact replaceK_le1 old new h1 h2 _ _

theorem chk_step (t : ByteArray) (i : Nat) (h : i < t.size) (hb : badTok t i = false) : chk t (t.size - i) i = chk t (t.size - (i + 1)) (i + 1) := by
  obtain ⟨d, hd⟩ : ∃ d, t.size - i = d + 1 := ⟨t.size - i - 1, by omega⟩
  rw [hd, show t.size - (i + 1) = d by omega, chk, if_neg (by rw [hb]; simp)]
theorem chk_bad (t : ByteArray) (i : Nat) (h : i < t.size) (hb : badTok t i = true) : chk t (t.size - i) i = false := by
  obtain ⟨d, hd⟩ : ∃ d, t.size - i = d + 1 := ⟨t.size - i - 1, by omega⟩
  rw [hd, chk, if_pos hb]
theorem chk_end (t : ByteArray) (i : Nat) (h : ¬ i < t.size) : chk t (t.size - i) i = true := by
  rw [show t.size - i = 0 by omega, chk]

def cellsK (ps : List ByteArray) (k : Nat) : Array Value := (((ps.take k).map unT ++ ps.drop k).map Value.string).toArray
theorem cellsK_get (ps : List ByteArray) (k : Nat) (h : k < ps.length) : (cellsK ps k)[k]? = some (.string (ps.getD k ByteArray.empty)) := by
  unfold cellsK
  have h1 : ((ps.take k).map unT).length = k := by simp; omega
  rw [List.getElem?_toArray, List.getElem?_map, List.getElem?_append_right (by omega), h1, Nat.sub_self, List.getElem?_drop, Nat.add_zero, List.getElem?_eq_getElem h, List.getD_eq_getElem?_getD, List.getElem?_eq_getElem h]
  rfl
theorem cellsK_set (ps : List ByteArray) (k : Nat) (h : k < ps.length) : (cellsK ps k).setIfInBounds k (.string (unT (ps.getD k ByteArray.empty))) = cellsK ps (k + 1) := by
  unfold cellsK
  have e : ps.drop k = ps.getD k ByteArray.empty :: ps.drop (k + 1) := by
    rw [List.getD_eq_getElem?_getD, List.getElem?_eq_getElem h, List.drop_eq_getElem_cons h]
    rfl
  have e2 : ps.take (k + 1) = ps.take k ++ [ps.getD k ByteArray.empty] := by
    rw [List.take_succ_eq_append_getElem h, List.getD_eq_getElem?_getD, List.getElem?_eq_getElem h]
    rfl
  have h1 : ((ps.take k).map unT).length = k := by simp; omega
  apply Array.ext'
  rw [Array.toList_setIfInBounds, e, e2]
  simp only [List.map_append, List.map_cons, List.map_nil, List.append_assoc]
  rw [List.set_append_right _ _ (by simp; omega)]
  simp
  rw [show k - min k ps.length = 0 by omega]
  rfl

set_option maxRecDepth 1000000 in
set_option maxHeartbeats 2000000 in
theorem impl_PtrTokens.calls (a0 : ByteArray) (r1 : List ByteArray) (r2 : Bool) (w : World) (hG : GM w) (h : impl_PtrTokens.f a0 = some (r1, r2)) :
    Calls Tryd.prog 16 #[.string a0] w fun e w' => ∃ v0_ : Value, e = .returned (.tuple #[v0_, .bool r2]) ∧ Kd.R Kd.string 9 w' w.heap.size (fun _ => True) v0_ r1 ∧ Below w.heap.size w w' := by
  have HGG := Lib.hid hG
  clear hG
  unfold impl_PtrTokens.f at h
  split at h
  · rename_i hfit
    split at h
    · rename_i h0
      simp only [Option.some.injEq, Prod.mk.injEq] at h
      obtain ⟨rfl, rfl⟩ := h
      have he : a0.toList = [] := by rw [Lib.toList_data]; exact List.eq_nil_of_length_eq_zero (by rw [Array.length_toList]; exact h0)
      clear h0 hfit
      go_enter Tryd.func16, Tryd.ntmps16
      go_wp2_with fail
      go_ret2
      exact ⟨_, rfl, Kd.R_nil _ _ _ _ _, Below.refl _ _⟩
    · rename_i h0
      have he : a0.toList.isEmpty = false := by
        rw [Lib.toList_data]
        cases hl : a0.data.toList with
        | nil => exact absurd (by have := congrArg List.length hl; rw [Array.length_toList] at this; exact this) h0
        | cons x xs => rfl
      have he2 : ¬ a0.toList = [] := by intro hh; rw [hh] at he; cases he
      have hsz : 0 < a0.size := by omega
      have hx : ∀ hh : 0 < a0.size, ((a0[0]'hh).toNat : Int) = bt a0 0 := fun hh => bt_at a0 0 hh
      split at h
      · rename_i h47
        have hb : (bt a0 0 != 47) = false := by simpa using h47
        have hps : ∀ x ∈ parts a0, x.size ≤ 4194304 := by
          intro x hx
          have h1 := splitB_size ⟨#[47]⟩ (by show 1 ≤ 1; exact Nat.le_refl _) _ _ x hx
          have h2 : (a0.extract 1 a0.size).size ≤ a0.size := by
            rw [ByteArray.size_extract]
            omega
          omega
        have hlen : (parts a0).length ≤ 4194305 := by
          have h1 := Lib.splitB_all ⟨#[47]⟩ (by show 1 ≤ 1; exact Nat.le_refl _) 0 _ (a0.extract 1 a0.size) rfl
          have h2 := Lib.countB_le ⟨#[47]⟩ (by show 1 ≤ 1; exact Nat.le_refl _) (a0.extract 1 a0.size).size (a0.extract 1 a0.size) (Nat.le_refl _)
          have h3 : (a0.extract 1 a0.size).size ≤ a0.size := by
            rw [ByteArray.size_extract]
            omega
          unfold parts
          omega
        have hspl : (Lib.splitB ⟨#[47]⟩ 0 (Lib.countB (a0.extract 1 a0.size) ⟨#[47]⟩) (a0.extract 1 a0.size)) = parts a0 := rfl
        have hcnt : Lib.countB (a0.extract 1 a0.size) ⟨#[47]⟩ + 1 = (parts a0).length := (Lib.splitB_all ⟨#[47]⟩ (by show 1 ≤ 1; exact Nat.le_refl _) 0 _ (a0.extract 1 a0.size) rfl).symm
        generalize hpp : parts a0 = ps at *
        have HS := Lib.hid hspl
        have HC := Lib.hid hcnt
        have HP := Lib.hid hps
        have HH := Lib.hid h
        clear hspl hcnt hps h hpp h47 h0
        obtain ⟨m, hm⟩ := HGG.out
        have HM := Lib.hid hm
        clear hm
        go_enter Tryd.func16, Tryd.ntmps16
        go_wp2_with fail
        refine (Tryd.strings_Split (a0.extract 1 a0.size) ⟨#[47]⟩ m w (by rw [ByteArray.size_extract]; omega) HM.out (by show 1 ≤ 1; exact Nat.le_refl _)).mono ?_
        rintro e w1 ⟨rfl, rfl⟩
        rw [HS.out, HC.out]
        go_wp2_with fail
        have hn : ps.length ≤ 4194305 := hlen
        clear hlen hb he he2 hx hsz
        go_loopw [18] (fun s wr => ∃ k : Nat, k ≤ ps.length ∧ s = .int .i64 k ∧ Hid (wr.heap[w.heap.size]? = some (.cells (cellsK ps k) 9 (0, 0))) ∧ Hid (Below w.heap.size w wr) ∧ Hid ((ps.take k).all goodT = true)) (fun s _ => ps.length - (intOf s).toNat)
        case atStart => exact ⟨0, Nat.zero_le _, rfl, Lib.hid (by simpa [cellsK] using heap_alloc_new w _), Lib.hid (below_alloc (Below.refl _ _) _), Lib.hid rfl⟩
        case round =>
          obtain ⟨k, hk, rfl, HI, HB, HA⟩ := hrel
          by_cases hlt : k < ps.length
          · have hcell : wr.cell? ⟨w.heap.size, k, none⟩ = some (.string (ps.getD k ByteArray.empty)) := by
              rw [Lib.cell_of_heap HI.out k]
              exact cellsK_get ps k hlt
            have hmem : ps.getD k ByteArray.empty ∈ ps := by
              rw [List.getD_eq_getElem?_getD, List.getElem?_eq_getElem hlt]
              exact List.getElem_mem hlt
            have hts := HP.out _ hmem
            have HT : Hid (∃ t, ps.getD k ByteArray.empty = t) := ⟨_, rfl⟩
            clear hmem
            generalize hq : ps.getD k ByteArray.empty = t at *
            have HQ := Lib.hid hq
            clear hq HT
            go_wp2_with fail
            go_loop [25] (fun j => ∃ i : Nat, i ≤ t.size ∧ j = .int .i64 i ∧ Hid (chk t (t.size - i) i = goodT t)) (fun j => t.size - (intOf j).toNat)
            case atStart => exact ⟨0, Nat.zero_le _, rfl, Lib.hid rfl⟩
            case round =>
              obtain ⟨i, hi, rfl, HCH⟩ := hrel
              by_cases hil : i < t.size
              · have hxb : ∀ hh : i < t.size, ((t[i]'hh).toNat : Int) = bt t (i : Int) := fun hh => bt_at t (i : Int) (by simpa using hh)
                have hsn : t.size ≤ 4194304 := hts
                have ret : ∀ e W', (e = Ending.returned (.tuple #[.slice none 0 0, .bool false]) ∧ Below w.heap.size w W') → goodT t = false → ∃ v0_ : Value, e = .returned (.tuple #[v0_, .bool r2]) ∧ Kd.R Kd.string 9 W' w.heap.size (fun _ => True) v0_ r1 ∧ Below w.heap.size w W' := by
                  rintro e W' ⟨rfl, hB⟩ hg
                  have hm : ps.getD k ByteArray.empty ∈ ps := by
                    rw [List.getD_eq_getElem?_getD, List.getElem?_eq_getElem hlt]
                    exact List.getElem_mem hlt
                  rw [HQ.out] at hm
                  have hall : ¬ (ps.all goodT = true) := by
                    intro ha
                    have := List.all_eq_true.1 ha t hm
                    rw [hg] at this
                    cases this
                  have h2 := HH.out
                  rw [if_neg hall] at h2
                  simp only [Option.some.injEq, Prod.mk.injEq] at h2
                  obtain ⟨rfl, rfl⟩ := h2
                  exact ⟨_, rfl, Kd.R_nil _ _ _ _ _, hB⟩
                have RET := Lib.hid ret
                clear ret
                by_cases b1 : bt t (i : Int) = 126
                · have c1 : (bt t (i : Int) == 126) = true := by simpa using b1
                  by_cases b2 : i + 1 = t.size
                  · have c2 : ((i : Int) + 1 == (t.size : Int)) = true := by simp; omega
                    have hbad : Hid (badTok t i = true) := by unfold badTok; rw [c1, c2]; rfl
                    clear b1 b2
                    go_wp2_with fail
                    go_ret2
                    exact RET.out _ _ ⟨rfl, HB.out⟩ (by rw [← HCH.out, chk_bad t i hil hbad.out])
                  · have c2 : ((i : Int) + 1 == (t.size : Int)) = false := by simp; omega
                    have hil1 : i + 1 < t.size := by omega
                    have hxb1 : ∀ hh : i + 1 < t.size, ((t[i + 1]'hh).toNat : Int) = bt t ((i : Int) + 1) := fun hh => bt_at t ((i : Int) + 1) (by simpa using hh)
                    by_cases b3 : bt t ((i : Int) + 1) = 48
                    · have c3 : (bt t ((i : Int) + 1) != 48) = false := by simpa using b3
                      have hbad : Hid (badTok t i = false) := by unfold badTok; rw [c1, c2, c3]; rfl
                      clear b1 b2 b3
                      go_wp2_with fail
                      go_round
                      case rel => exact ⟨i + 1, by omega, by go_num, Lib.hid (by rw [← HCH.out, chk_step t i hil hbad.out])⟩
                      case measure => simp [intOf]; omega
                    · have c3 : (bt t ((i : Int) + 1) != 48) = true := by simpa using b3
                      by_cases b4 : bt t ((i : Int) + 1) = 49
                      · have c4 : (bt t ((i : Int) + 1) != 49) = false := by simpa using b4
                        have hbad : Hid (badTok t i = false) := by unfold badTok; rw [c1, c2, c3, c4]; rfl
                        clear b1 b2 b3 b4
                        go_wp2_with fail
                        go_round
                        case rel => exact ⟨i + 1, by omega, by go_num, Lib.hid (by rw [← HCH.out, chk_step t i hil hbad.out])⟩
                        case measure => simp [intOf]; omega
                      · have c4 : (bt t ((i : Int) + 1) != 49) = true := by simpa using b4
                        have hbad : Hid (badTok t i = true) := by unfold badTok; rw [c1, c2, c3, c4]; rfl
                        clear b1 b2 b3 b4
                        go_wp2_with fail
                        go_ret2
                        exact RET.out _ _ ⟨rfl, HB.out⟩ (by rw [← HCH.out, chk_bad t i hil hbad.out])
                · have c1 : (bt t (i : Int) == 126) = false := by simpa using b1
                  have hbad : Hid (badTok t i = false) := by unfold badTok; rw [c1]; rfl
                  clear b1
                  go_wp2_with fail
                  go_round
                  case rel => exact ⟨i + 1, by omega, by go_num, Lib.hid (by rw [← HCH.out, chk_step t i hil hbad.out])⟩
                  case measure => simp [intOf]; omega
              · have HGT : Hid (goodT t = true) := by
                  rw [← HCH.out]
                  exact chk_end t i hil
                clear HCH
                have f1 := replace_fits1 t 49 47 (by omega)
                have hl1 := replaceAll_le1 t.data.toList [126, 49] [47] rfl rfl
                have h3 : t.data.toList.length = t.size := by rw [Array.length_toList]; rfl
                have HU : Hid (unT t = ⟨(Lib.replaceAll (Lib.replaceAll t.data.toList [126, 49] [47]) [126, 48] [126]).toArray⟩) := rfl
                generalize hq : Lib.replaceAll t.data.toList [126, 49] [47] = q at *
                have HQ1 := Lib.hid hq
                have HF1 := Lib.hid f1
                clear hq f1
                have f2 := replace_fits1 ⟨q.toArray⟩ 48 126 (by show q.toArray.size ≤ _; simp; omega)
                generalize hq2 : Lib.replaceAll q [126, 48] [126] = q2 at *
                have f3 : strings_ReplaceAll.f ⟨q.toArray⟩ ⟨#[126, 48]⟩ ⟨#[126]⟩ = some ⟨q2.toArray⟩ := f2
                have HF2 := Lib.hid f3
                clear hq2 f2 f3 hl1 h3
                go_wp2_with fail
                refine (strings_ReplaceAll.calls _ _ _ _ wr (HGG.out.of HB.out) HF1.out).mono ?_
                rintro e w2 ⟨rfl, hw2⟩
                have HI2 : Hid (w2.heap[w.heap.size]? = some (.cells (cellsK ps k) 9 (0, 0))) := Lib.hid ((hw2.block _ (Array.getElem?_eq_some_iff.1 HI.out).1).trans HI.out)
                have HB2 := Lib.hid (below_then HB.out HB.out.size hw2)
                clear hw2
                go_wp2_with fail
                refine (strings_ReplaceAll.calls _ _ _ _ w2 (HGG.out.of HB2.out) HF2.out).mono ?_
                rintro e w3 ⟨rfl, hw3⟩
                have HI3 : Hid (w3.heap[w.heap.size]? = some (.cells (cellsK ps k) 9 (0, 0))) := Lib.hid ((hw3.block _ (Array.getElem?_eq_some_iff.1 HI2.out).1).trans HI2.out)
                have HB3 := Lib.hid (below_then HB2.out HB2.out.size hw3)
                clear hw3 HI2 HB2
                have hcell3 : w3.cell? ⟨w.heap.size, k, none⟩ = some (.string t) := by
                  rw [Lib.cell_of_heap HI3.out k, cellsK_get ps k hlt, HQ.out]
                have hfro3 : w3.frozen? ⟨w.heap.size, k, none⟩ = false := Lib.frozen_of_heap HI3.out k
                go_wp2_with fail
                go_roundw
                case rel =>
                  refine ⟨k + 1, by omega, by go_num, ?_, ?_, ?_⟩
                  · refine Lib.hid ?_
                    rw [← cellsK_set ps k hlt, HQ.out, HU.out]
                    have hh := HI3.out
                    simp only [World.setCell, Array.getElem?_modify]
                    rw [if_pos trivial, hh]
                    rfl
                  · exact Lib.hid (HB3.out.setCell (p := ⟨w.heap.size, k, none⟩) (Nat.le_refl _) _)
                  · refine Lib.hid ?_
                    rw [List.take_succ_eq_append_getElem hlt, List.all_append, HA.out]
                    have hq := HQ.out
                    rw [List.getD_eq_getElem?_getD, List.getElem?_eq_getElem hlt] at hq
                    simp at hq
                    simp [hq, HGT.out]
                case measure => simp [intOf]; omega
          · have : k = ps.length := by omega
            subst this
            go_wp2_with fail
            have h2 := HH.out
            have hall := HA.out
            rw [List.take_of_length_le (Nat.le_refl _)] at hall
            rw [if_pos hall] at h2
            simp only [Option.some.injEq, Prod.mk.injEq] at h2
            obtain ⟨rfl, rfl⟩ := h2
            go_ret2
            refine ⟨_, rfl, Kd.R_of_own (enc := Value.string) (h1 := fun _ => rfl) ?_ (fun _ _ => trivial), HB.out⟩
            have hcs : cellsK ps ps.length = ((ps.map unT).map Value.string).toArray := by
              unfold cellsK
              rw [List.take_of_length_le (Nat.le_refl _), List.drop_of_length_le (Nat.le_refl _), List.append_nil]
            have hi := HI.out
            rw [hcs] at hi
            refine ⟨by rw [encs, List.length_map, Nat.mul_one], .inr ⟨w.heap.size, _, _, by rw [List.length_map]; rfl, Nat.le_refl _, hi, by simp, by unfold maxLen; omega, by simp, ?_⟩⟩
            rw [List.take_of_length_le (by simp)]
            rfl
      · rename_i h47
        simp only [Option.some.injEq, Prod.mk.injEq] at h
        obtain ⟨rfl, rfl⟩ := h
        have hb : (bt a0 0 != 47) = true := by simpa using h47
        clear h0 hfit h47
        go_enter Tryd.func16, Tryd.ntmps16
        go_wp2_with fail
        go_ret2
        exact ⟨_, rfl, Kd.R_nil _ _ _ _ _, Below.refl _ _⟩
  · cases h
end Go.Proofs.YtmphkhkbegihaaaDoor.Own
