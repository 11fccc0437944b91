/- impl.quoted: the printed function appends the canonical text of a string; its contract in this session's form. -/
import Derived.Test.YtbonodglnilkfaaGreatDoorTree
import Derived.Test.YtbonodglnilkfaaGreatDoorRead2
import Derived.Test.YtbonodglnilkfaaGreatDoorRead4
import Derived.Test.YtbonodglnilkfaaGreatDoorRune
namespace Go.Proofs.YtbonodglnilkfaaGreatDoor.Pf
open Go Go.RowKit Go.Proofs.YtbonodglnilkfaaGreatDoorW.PrintWords Go.Proofs.YtbonodglnilkfaaGreatDoor.Str Go.Proofs.YtbonodglnilkfaaGreatDoor.Tree Go.Proofs.YtbonodglnilkfaaGreatDoor.Read Go.Proofs.YtbonodglnilkfaaGreatDoor.PJt Go.Proofs.YtbonodglnilkfaaGreatDoor.Own Go.Proofs.YtbonodglnilkfaaGreatDoor.Tchs
set_option linter.unusedVariables false
set_option linter.unusedSimpArgs false
abbrev QE : ByteArray := ⟨#[34, 92, 98, 116, 110, 102, 114]⟩
def ixq (c : Int) : Int := Lib.indexByte [34, 92, 8, 9, 10, 12, 13] c.toNat.toUInt8
theorem ixq_tab : ∀ n : Fin 256, (ixq (n.1 : Int) ≥ 0 → 0 ≤ ixq (n.1 : Int) ∧ ixq (n.1 : Int) < 7 ∧ escI (n.1 : Int) = [92, bt QE (ixq (n.1 : Int))]) ∧
  (¬ ixq (n.1 : Int) ≥ 0 → (n.1 : Int) < 32 → Go.bits .and .u8 (n.1 : Int) 15 = (n.1 : Int) % 16 ∧ escI (n.1 : Int) = [92, 117, 48, 48, bt HEX ((n.1 : Int) / 16), bt HEX ((n.1 : Int) % 16)]) ∧
  (¬ ixq (n.1 : Int) ≥ 0 → ¬ (n.1 : Int) < 32 → escI (n.1 : Int) = [(n.1 : Int)]) := by decide +kernel
theorem ixq_at (c : Int) (h0 : 0 ≤ c) (h1 : c ≤ 255) : (ixq c ≥ 0 → 0 ≤ ixq c ∧ ixq c < 7 ∧ escI c = [92, bt QE (ixq c)]) ∧
  (¬ ixq c ≥ 0 → c < 32 → Go.bits .and .u8 c 15 = c % 16 ∧ escI c = [92, 117, 48, 48, bt HEX (c / 16), bt HEX (c % 16)]) ∧ (¬ ixq c ≥ 0 → ¬ c < 32 → escI c = [c]) := by
 have h := ixq_tab ⟨c.toNat, by omega⟩
 simpa [Int.toNat_of_nonneg h0] using h
theorem qi_step (s : ByteArray) (hs : s.size ≤ 100000000) (i : Nat) (hi : i < s.size) (acc : List Int) (hl : acc.length ≤ 1000000000) (k : Nat) :
  impl_quoted.l0 (k + 1) acc s (s.size : Int) (i : Int) = impl_quoted.l0 k (acc ++ escI (bt s (i : Int))) s (s.size : Int) ((i + 1 : Nat) : Int) := by
 have hc := bt_range s (i : Int)
 have HW := Lib.hid (show wrap64 ((i : Int) + 1) = ((i + 1 : Nat) : Int) by rw [w64 (by omega) (by omega)]; omega)
 rw [impl_quoted.l0, if_pos (by omega), if_pos (by omega), if_pos (by omega), show strings_IndexByte.f (⟨#[34, 92, 8, 9, 10, 12, 13]⟩ : ByteArray) (bt s (i : Int)) = some (ixq (bt s (i : Int))) from rfl, Option.bind_some, HW.out]
 generalize bt s (i : Int) = c at hc ⊢
 obtain ⟨h1, h2, h3⟩ := ixq_at c hc.1 hc.2
 by_cases c1 : ixq c ≥ 0
 ·obtain ⟨g1, g2, g3⟩ := h1 c1
  rw [if_pos c1, if_pos g1, if_pos g2, Option.bind_some, g3, if_pos (by simp; omega)]
 ·by_cases c2 : c < 32
  ·obtain ⟨g1, g2⟩ := h2 c1 c2
   have eb : bytesOf (⟨#[92, 117, 48, 48]⟩ : ByteArray) = [92, 117, 48, 48] := rfl
   rw [if_neg c1, if_pos c2, if_pos (by omega), Option.bind_some, if_pos (by omega), if_pos (by omega), g1, if_pos (by omega), if_pos (by omega), Option.bind_some, g2, eb, if_pos (by simp; omega)]
   simp
  ·rw [if_neg c1, if_neg c2, if_pos (by omega), h3 c1 c2]
theorem qi_loop (s : ByteArray) (hs : s.size ≤ 100000000) : ∀ (n i : Nat) (acc : List Int) (k : Nat), s.size - i = n → i ≤ s.size → acc.length + 6 * n ≤ 1000000000 → n + 1 ≤ k →
  impl_quoted.l0 k acc s (s.size : Int) (i : Int) = some (acc ++ (((byt s).drop i).flatMap escI ++ [34])) := by
 intro n
 induction n with
 | zero =>
  intro i acc k hn hi hl hk
  obtain ⟨k, rfl⟩ : ∃ j, k = j + 1 := ⟨k - 1, by omega⟩
  rw [impl_quoted.l0, if_neg (by omega), if_pos (by omega), List.drop_of_length_le (by rw [byt_len]; omega)]
  rfl
 | succ n ih =>
  intro i acc k hn hi hl hk
  obtain ⟨k, rfl⟩ : ∃ j, k = j + 1 := ⟨k - 1, by omega⟩
  rw [qi_step s hs i (by omega) acc (by omega) k]
  have := escI_len (bt s (i : Int))
  rw [ih (i + 1) (acc ++ escI (bt s (i : Int))) k (by omega) (by omega) (by rw [List.length_append]; omega) (by omega), byt_get s i (by omega), List.flatMap_cons]
  simp only [List.append_assoc]
theorem quoted_i (s : ByteArray) (hs : s.size ≤ 10000000) (acc : List Int) (hl : acc.length ≤ 100000000) (k : Nat) (hk : s.size + 1 ≤ k) : impl_quoted.f k acc s = some (acc ++ quo s) := by
 unfold impl_quoted.f
 rw [if_pos (by omega), show (0 : Int) = ((0 : Nat) : Int) from rfl, qi_loop s (by omega) s.size 0 (acc ++ [34]) k (by omega) (by omega) (by rw [List.length_append]; simp; omega) (by omega), List.drop_zero]
 unfold quo
 simp
def Wr (w0 w : World) (acc x : List Int) (e : Ending) (w' : World) : Prop :=
 ∃ v', e = .returned v' ∧ w'.ownsRow w0.heap.size 5 1 v' (acc ++ x).length (nums .u8 (acc ++ x)) ∧ Below w0.heap.size w0 w' ∧ Lib.OthersKept 5 none w w'
theorem kept_others {w w' : World} {base : Nat} {v : Value} {n : Nat} {xs : List Value} (hown : w.ownsRow base 5 1 v n xs) (hm : ∀ k, k < w.heap.size → some k ≠ v.ownBlock → w'.heap[k]? = w.heap[k]?) : Lib.OthersKept 5 none w w' := by
 intro k o ho _ hne
 have hk := (Array.getElem?_eq_some_iff.1 ho).1
 rw [hm k hk (fun e => by
  obtain ⟨cells, hc⟩ := own_typed hown k e.symm
  rw [ho] at hc
  injection hc with hc
  exact hne _ _ hc), ho]
theorem grown_others {w w' : World} {base : Nat} {v : Value} {n : Nat} {xs : List Value} (hown : w.ownsRow base 5 1 v n xs) (hg : w.grownBy w' v.ownBlock) : Lib.OthersKept 5 none w w' :=
 kept_others hown (fun k hk hne => hg.block k hk hne)
theorem below_others {w w' : World} (hb : Below w.heap.size w w') : Lib.OthersKept 5 none w w' := by
 intro k o ho _ _
 rw [hb.block k (Array.getElem?_eq_some_iff.1 ho).1, ho]
theorem quotedW (w0 w : World) (hB : Below w0.heap.size w0 w) (v : Value) (acc : List Int) (s : ByteArray) (hown : w.ownsRow w0.heap.size 5 1 v acc.length (nums .u8 acc)) (hl : acc.length ≤ 100000000) (hs : s.size ≤ 10000000) :
  Calls Tryz.prog 31 #[v, .string s] w fun e w' => Wr w0 w acc (quo s) e w' := by
 refine (impl_quoted.calls (s.size + 1) (fun k => v.ownBlock = some k) v acc s (acc ++ quo s) w0 w hB (Kd.R_of_own hown (fun k hk => hk)) (quoted_i s hs acc hl _ (Nat.le_refl _))).mono ?_
 rintro e w' ⟨v', rfl, hr, hb, hk⟩
 exact ⟨v', rfl, Kd.own_of_R hr, hb, kept_others hown (fun k hk1 hne => hk.2 k hk1 (fun e => hne e.symm))⟩
end Go.Proofs.YtbonodglnilkfaaGreatDoor.Pf
namespace Go.Proofs.YtbonodglnilkfaaGreatDoor.Str
open Go.RowKit Go.Proofs.YtbonodglnilkfaaGreatDoor.PJs Go.Proofs.YtbonodglnilkfaaGreatDoorW.PrintWords Go.Proofs.YtbonodglnilkfaaGreatDoorW.PrintLast
set_option linter.unusedVariables false
theorem simple_tab : ∀ n : Fin 256, spec_l1Simple.f 10 (n.1 : Int) = some (simpF (n.1 : Int)) := by decide +kernel
theorem simple_f (c : Int) (h0 : 0 ≤ c) (h1 : c ≤ 255) (k : Nat) (hk : 10 ≤ k) : spec_l1Simple.f k c = some (simpF c) := by
 have h := simple_tab ⟨c.toNat, by omega⟩
 simp only [Int.toNat_of_nonneg h0] at h
 exact at_rounds (fun k => spec_l1Simple.mono c k) hk h
theorem hex_tab : ∀ n : Fin 256, spec_l1Hex.f 1 (n.1 : Int) = some (hexD (n.1 : Int)) := by decide +kernel
theorem hex_f (c : Int) (h0 : 0 ≤ c) (h1 : c ≤ 255) (k : Nat) : spec_l1Hex.f (k + 1) c = some (hexD c) := by
 have h := hex_tab ⟨c.toNat, by omega⟩
 simp only [Int.toNat_of_nonneg h0] at h
 exact at_rounds (fun k => spec_l1Hex.mono c k) (by omega) h
theorem unit_step (s : ByteArray) (p j : Nat) (v : Int) (k : Nat) (hs : s.size ≤ 1048576) (hj : j < 6) (hp : p + 6 ≤ s.size) (h0 : 0 ≤ v) (h1 : v ≤ 65535) :
  spec_l1Unit.l0 (k + 2) s (p : Int) v (j : Int) = if hexD (bt s ((p : Int) + (j : Int))) < 0 then some (-1) else spec_l1Unit.l0 (k + 1) s (p : Int) (v * 16 + hexD (bt s ((p : Int) + (j : Int)))) ((j : Int) + 1) := by
 have hb := bt_range s ((p : Int) + (j : Int))
 simp only [spec_l1Unit.l0]
 have w1 : wrap64 ((p : Int) + (j : Int)) = (p : Int) + (j : Int) := w64 (by omega) (by omega)
 rw [if_pos (show (j : Int) < 6 by omega), w1, if_pos (show 0 ≤ (p : Int) + (j : Int) by omega), if_pos (show (p : Int) + (j : Int) < (s.size : Int) by omega), hex_f _ hb.1 hb.2 k, Option.bind_some]
 have hx := hexD_le (bt s ((p : Int) + (j : Int)))
 generalize hexD (bt s ((p : Int) + (j : Int))) = x at hx
 have w2 : wrap64 (v * 16) = v * 16 := w64 (by omega) (by omega)
 have w3 : wrap64 (v * 16 + x) = v * 16 + x := w64 (by omega) (by omega)
 have w4 : wrap64 ((j : Int) + 1) = (j : Int) + 1 := w64 (by omega) (by omega)
 rw [w2, w3, w4]
theorem unitF_at (s : ByteArray) (p : Nat) : unitF s (p + 2) = if p + 6 ≤ s.size ∧ 0 ≤ hexD (bt s ((p : Int) + 2)) ∧ 0 ≤ hexD (bt s ((p : Int) + 3)) ∧ 0 ≤ hexD (bt s ((p : Int) + 4)) ∧ 0 ≤ hexD (bt s ((p : Int) + 5)) then
  some (((hexD (bt s ((p : Int) + 2)) * 16 + hexD (bt s ((p : Int) + 3))) * 16 + hexD (bt s ((p : Int) + 4))) * 16 + hexD (bt s ((p : Int) + 5)))
 else none := by
 unfold unitF
 have e0 : ((p + 2 : Nat) : Int) = (p : Int) + 2 := by omega
 have e1 : ((p + 2 : Nat) : Int) + 1 = (p : Int) + 3 := by omega
 have e2 : ((p + 2 : Nat) : Int) + 2 = (p : Int) + 4 := by omega
 have e3 : ((p + 2 : Nat) : Int) + 3 = (p : Int) + 5 := by omega
 rw [e1, e2, e3, e0]
def unitI (s : ByteArray) (p : Nat) : Int := if p + 6 ≤ s.size ∧ bt s (p : Int) = 92 ∧ bt s ((p : Int) + 1) = 117 then (unitF s (p + 2)).getD (-1) else -1
theorem unit_f (s : ByteArray) (p : Nat) (hs : s.size ≤ 1048576) (hp : p ≤ s.size) (k : Nat) (hk : 8 ≤ k) : spec_l1Unit.f k s (p : Int) = some (unitI s p) := by
 obtain ⟨k, rfl⟩ : ∃ m, k = m + 8 := ⟨k - 8, by omega⟩
 unfold spec_l1Unit.f unitI
 have w6 : wrap64 ((p : Int) + 6) = (p : Int) + 6 := w64 (by omega) (by omega)
 have w1 : wrap64 ((p : Int) + 1) = (p : Int) + 1 := w64 (by omega) (by omega)
 rw [w6, w1]
 by_cases h6 : (p : Int) + 6 > (s.size : Int)
 ·rw [if_pos h6, if_neg (by omega)]
  simp only [spec_l1Unit.j0, if_true]
 rw [if_neg h6, if_pos (by omega), if_pos (by omega)]
 by_cases h92 : bt s (p : Int) = 92
 ·rw [if_pos h92, if_pos (by omega), if_pos (by omega)]
  by_cases h117 : bt s ((p : Int) + 1) = 117
  ·have e : (bt s ((p : Int) + 1) != 117) = false := by rw [h117]; rfl
   rw [e, if_pos ⟨by omega, h92, h117⟩, unitF_at]
   simp only [spec_l1Unit.j0]
   rw [if_neg (by simp)]
   have l2 := hexD_le (bt s ((p : Int) + 2))
   have l3 := hexD_le (bt s ((p : Int) + 3))
   have l4 := hexD_le (bt s ((p : Int) + 4))
   have l5 := hexD_le (bt s ((p : Int) + 5))
   have s2 := unit_step s p 2 0 (k + 5) hs (by omega) (by omega) (by omega) (by omega)
   rw [show ((2 : Nat) : Int) = 2 from rfl] at s2
   rw [s2]
   by_cases c2 : hexD (bt s ((p : Int) + 2)) < 0
   ·rw [if_pos c2, if_neg (by omega)]
    rfl
   rw [if_neg c2]
   have s3 := unit_step s p 3 (0 * 16 + hexD (bt s ((p : Int) + 2))) (k + 4) hs (by omega) (by omega) (by omega) (by omega)
   rw [show ((3 : Nat) : Int) = 2 + 1 from rfl] at s3
   rw [s3, show (p : Int) + (2 + 1) = (p : Int) + 3 by omega]
   by_cases c3 : hexD (bt s ((p : Int) + 3)) < 0
   ·rw [if_pos c3, if_neg (by omega)]
    rfl
   rw [if_neg c3]
   have s4 := unit_step s p 4 ((0 * 16 + hexD (bt s ((p : Int) + 2))) * 16 + hexD (bt s ((p : Int) + 3))) (k + 3) hs (by omega) (by omega) (by omega) (by omega)
   rw [show ((4 : Nat) : Int) = 2 + 1 + 1 from rfl] at s4
   rw [s4, show (p : Int) + (2 + 1 + 1) = (p : Int) + 4 by omega]
   by_cases c4 : hexD (bt s ((p : Int) + 4)) < 0
   ·rw [if_pos c4, if_neg (by omega)]
    rfl
   rw [if_neg c4]
   have s5 := unit_step s p 5 (((0 * 16 + hexD (bt s ((p : Int) + 2))) * 16 + hexD (bt s ((p : Int) + 3))) * 16 + hexD (bt s ((p : Int) + 4))) (k + 2) hs (by omega) (by omega) (by omega) (by omega)
   rw [show ((5 : Nat) : Int) = 2 + 1 + 1 + 1 from rfl] at s5
   rw [s5, show (p : Int) + (2 + 1 + 1 + 1) = (p : Int) + 5 by omega]
   by_cases c5 : hexD (bt s ((p : Int) + 5)) < 0
   ·rw [if_pos c5, if_neg (by omega)]
    rfl
   rw [if_neg c5, if_pos ⟨by omega, by omega, by omega, by omega, by omega⟩]
   simp only [spec_l1Unit.l0]
   rw [if_neg (by omega), Int.zero_mul, Int.zero_add]
   rfl
  ·have e : (bt s ((p : Int) + 1) != 117) = true := by simpa using h117
   rw [e, if_neg (fun h => h117 h.2.2)]
   simp only [spec_l1Unit.j0, if_true]
 ·rw [if_neg h92, if_neg (fun h => h92 h.2.1)]
  simp only [spec_l1Unit.j0, if_true]
theorem unitI_le (s : ByteArray) (p : Nat) : -1 ≤ unitI s p ∧ unitI s p ≤ 65535 := by
 unfold unitI
 split
 ·cases h : unitF s (p + 2) with
  | none => simp
  | some v => have := unitF_le h; simp; omega
 ·omega
def toR (p : Nat) : Option (List Int × Nat) → ByteArray × Int
 | some (b, q) => (strOfNums b, (q : Int) - p)
 | none => (⟨#[]⟩, 0)
def escU (s : ByteArray) (p : Nat) : Option (List Int × Nat) :=
 if unitI s p < 0 ∨ (56320 ≤ unitI s p ∧ unitI s p < 57344) then none
 else if unitI s p < 55296 ∨ 57344 ≤ unitI s p then some (u8L (unitI s p), p + 6)
 else if unitI s (p + 6) < 56320 ∨ 57344 ≤ unitI s (p + 6) then none
 else some (u8L (65536 + (unitI s p - 55296) * 1024 + (unitI s (p + 6) - 56320)), p + 12)
theorem j0_false (s : ByteArray) (p : Nat) (hs : s.size ≤ 1048576) (hp : p < s.size) (k : Nat) : spec_l1Piece.j0 (k + 12) s (p : Int) false = some (toR p (escU s p)) := by
 have hu := unit_f s p hs (by omega) (k + 11) (by omega)
 have hul := unitI_le s p
 have w6 : wrap64 ((p : Int) + 6) = (p : Int) + 6 := w64 (by omega) (by omega)
 simp only [spec_l1Piece.j0]
 rw [if_neg (by simp), hu, Option.bind_some]
 unfold escU
 by_cases c0 : unitI s p < 0
 ·rw [if_pos c0, if_pos (.inl c0)]
  simp only [spec_l1Piece.j1, if_true]
  rfl
 rw [if_neg c0]
 by_cases c1 : unitI s p ≥ 56320
 ·rw [if_pos c1]
  by_cases c2 : unitI s p < 57344
  ·rw [if_pos (.inr ⟨c1, c2⟩)]
   simp only [spec_l1Piece.j1]
   rw [if_pos (by simpa using c2)]
   rfl
  ·rw [if_neg (by omega), if_pos (by omega)]
   simp only [spec_l1Piece.j1]
   rw [if_neg (by simpa using c2), if_neg (by omega)]
   simp only [spec_l1Piece.j2]
   rw [if_pos (by simp; omega), utf8_f _ (by omega) (by omega), Option.bind_some]
   unfold toR
   simp only [Option.some.injEq, Prod.mk.injEq, true_and]
   omega
 ·rw [if_neg c1, if_neg (by omega)]
  simp only [spec_l1Piece.j1]
  rw [if_neg (by simp)]
  by_cases c3 : unitI s p < 55296
  ·rw [if_pos c3, if_pos (.inl c3)]
   simp only [spec_l1Piece.j2, if_true]
   rw [utf8_f _ (by omega) (by omega), Option.bind_some]
   unfold toR
   simp only [Option.some.injEq, Prod.mk.injEq, true_and]
   omega
  ·rw [if_neg c3, if_neg (by omega)]
   simp only [spec_l1Piece.j2]
   have hp6 : p + 6 ≤ s.size := by
    unfold unitI at c0
    by_cases h : p + 6 ≤ s.size
    ·exact h
    ·rw [if_neg (fun hh => h hh.1)] at c0
     omega
   have hu2 := unit_f s (p + 6) hs hp6 (k + 9) (by omega)
   have hul2 := unitI_le s (p + 6)
   rw [show ((p + 6 : Nat) : Int) = (p : Int) + 6 by omega] at hu2
   rw [if_neg (by simp; omega), w6, hu2, Option.bind_some]
   by_cases c4 : unitI s (p + 6) < 56320
   ·rw [if_pos c4, if_pos (.inl c4)]
    rfl
   rw [if_neg c4]
   by_cases c5 : unitI s (p + 6) ≥ 57344
   ·rw [if_pos c5, if_pos (.inr c5)]
    rfl
   rw [if_neg c5, if_neg (by omega)]
   have a1 : wrap64 (unitI s p - 55296) = unitI s p - 55296 := w64 (by omega) (by omega)
   have a2 : wrap64 ((unitI s p - 55296) * 1024) = (unitI s p - 55296) * 1024 := w64 (by omega) (by omega)
   have a3 : wrap64 (65536 + (unitI s p - 55296) * 1024) = 65536 + (unitI s p - 55296) * 1024 := w64 (by omega) (by omega)
   have a4 : wrap64 (65536 + (unitI s p - 55296) * 1024 + unitI s (p + 6)) = 65536 + (unitI s p - 55296) * 1024 + unitI s (p + 6) := w64 (by omega) (by omega)
   have a5 : wrap64 (65536 + (unitI s p - 55296) * 1024 + unitI s (p + 6) - 56320) = 65536 + (unitI s p - 55296) * 1024 + (unitI s (p + 6) - 56320) := by rw [w64 (by omega) (by omega)]; omega
   rw [a1, a2, a3, a4, a5, utf8_f _ (by omega) (by omega), Option.bind_some]
   unfold toR
   simp only [Option.some.injEq, Prod.mk.injEq, true_and]
   omega
theorem escF_u (s : ByteArray) (p : Nat) (h92 : bt s (p : Int) = 92) (hn : ¬ (p + 1 < s.size ∧ 0 ≤ simpF (bt s ((p : Int) + 1)))) : escF s (p + 1) = escU s p := by
 have e1 : ((p + 1 : Nat) : Int) = (p : Int) + 1 := by omega
 unfold escF escU
 by_cases hp : p + 1 < s.size
 ·rw [if_pos hp, e1, if_neg (fun h => hn ⟨hp, h⟩)]
  by_cases h117 : bt s ((p : Int) + 1) = 117
  ·rw [if_pos h117]
   have hI : unitI s p = (unitF s (p + 2)).getD (-1) := by
    unfold unitI
    by_cases h6 : p + 6 ≤ s.size
    ·rw [if_pos ⟨h6, h92, h117⟩]
    ·rw [if_neg (fun h => h6 h.1), unitF_at, if_neg (fun h => h6 h.1)]
     rfl
   rw [show p + 1 + 1 = p + 2 by omega]
   cases hu : unitF s (p + 2) with
   | none =>
    rw [hu] at hI
    simp only [Option.getD_none] at hI
    rw [if_pos (by omega)]
   | some v =>
    have hv := unitF_le hu
    rw [hu] at hI
    simp only [Option.getD_some] at hI
    rw [hI]
    simp only
    by_cases c1 : 56320 ≤ v ∧ v ≤ 57343
    ·rw [if_pos c1, if_pos (by omega)]
    rw [if_neg c1, if_neg (show ¬ (v < 0 ∨ (56320 ≤ v ∧ v < 57344)) by omega)]
    by_cases c2 : 55296 ≤ v ∧ v ≤ 56319
    ·rw [if_pos c2, if_neg (show ¬ (v < 55296 ∨ 57344 ≤ v) by omega)]
     have f0 : ((p + 6 : Nat) : Int) = (p : Int) + 1 + 5 := by omega
     have f1 : ((p + 6 : Nat) : Int) + 1 = (p : Int) + 1 + 6 := by omega
     have hI2 : unitI s (p + 6) = if p + 1 + 7 ≤ s.size ∧ bt s ((p : Int) + 1 + 5) = 92 ∧ bt s ((p : Int) + 1 + 6) = 117 then (unitF s (p + 1 + 7)).getD (-1) else -1 := by
      unfold unitI
      rw [f1, f0, show p + 6 + 2 = p + 1 + 7 by omega]
      by_cases h : p + 1 + 7 ≤ s.size ∧ bt s ((p : Int) + 1 + 5) = 92 ∧ bt s ((p : Int) + 1 + 6) = 117
      ·rw [if_pos h]
       by_cases h12 : p + 6 + 6 ≤ s.size
       ·rw [if_pos ⟨h12, h.2⟩]
       ·rw [if_neg (fun hh => h12 hh.1)]
        cases hx : unitF s (p + 1 + 7) with
        | none => rfl
        | some x => have := (unitF_le hx).2.2; omega
      ·rw [if_neg h, if_neg (fun hh => h ⟨by omega, hh.2⟩)]
     by_cases c3 : p + 1 + 7 ≤ s.size ∧ bt s ((p : Int) + 1 + 5) = 92 ∧ bt s ((p : Int) + 1 + 6) = 117
     ·rw [if_pos c3] at hI2 ⊢
      cases hx : unitF s (p + 1 + 7) with
      | none =>
       rw [hx] at hI2
       simp only [Option.getD_none] at hI2
       rw [if_pos (by omega)]
      | some x =>
       rw [hx] at hI2
       simp only [Option.getD_some] at hI2
       simp only
       rw [hI2]
       by_cases c4 : x < 56320 ∨ x > 57343
       ·rw [if_pos c4, if_pos (by omega)]
       ·rw [if_neg c4, if_neg (by omega)]
     ·rw [if_neg c3] at hI2 ⊢
      rw [if_pos (by omega)]
    ·rw [if_neg c2, if_pos (show v < 55296 ∨ 57344 ≤ v by omega)]
  ·rw [if_neg h117]
   have hI : unitI s p = -1 := by unfold unitI; rw [if_neg (fun h => h117 h.2.2)]
   rw [if_pos (by omega)]
 ·rw [if_neg hp]
  have hI : unitI s p = -1 := by unfold unitI; rw [if_neg (fun h => hp (by omega))]
  rw [if_pos (by omega)]
theorem ext_empty (s : ByteArray) (p : Nat) : s.extract p p = ⟨#[]⟩ := by
 apply ByteArray.ext
 simp
theorem ext_bts (s : ByteArray) (p n : Nat) (h : p + n ≤ s.size) : s.extract p (p + n) = strOfNums (btsL s (p : Int) n) := by
 apply ByteArray.ext
 apply Array.toList_inj.1
 rw [strOfNums_data]
 rw [← cut_list s n p h]
 simp
theorem piece_f (s : ByteArray) (p : Nat) (hs : s.size ≤ 1048576) (hp : p < s.size) (k : Nat) (hk : 20 ≤ k) : spec_l1Piece.f k s (p : Int) = some (toR p (pieceF s p)) := by
 obtain ⟨k, rfl⟩ : ∃ m, k = m + 12 := ⟨k - 12, by omega⟩
 have hb := bt_range s (p : Int)
 have w1 : wrap64 ((p : Int) + 1) = (p : Int) + 1 := w64 (by omega) (by omega)
 unfold spec_l1Piece.f pieceF
 rw [if_pos (by omega), if_pos (by omega)]
 by_cases h128 : bt s (p : Int) ≥ 128
 ·rw [if_pos h128, rl_dec s p hs hp _ (by omega), Option.bind_some, if_neg (show ¬ bt s (p : Int) = 92 by omega), if_neg (show ¬ (bt s (p : Int) < 32 ∨ bt s (p : Int) = 34) by omega), if_neg (show ¬ bt s (p : Int) < 128 by omega)]
  have hd := dec_pos s p hp
  by_cases hbad : badR s p = true
  ·rw [if_pos hbad, if_pos hbad, show wrap64 ((p : Int) + 0) = (p : Int) by rw [Int.add_zero]; exact w64 (by omega) (by omega), if_pos (by omega), if_pos (by omega)]
   simp only [Int.toNat_natCast, ext_empty]
   rfl
  ·rw [if_neg hbad, if_neg hbad]
   generalize (Utf8.decode s p).2 = n at hd
   have w2 : wrap64 ((p : Int) + (n : Int)) = (p : Int) + (n : Int) := w64 (by omega) (by omega)
   rw [w2, if_pos (by omega), if_pos (by omega), show ((p : Int) + (n : Int)).toNat = p + n by omega, Int.toNat_natCast, ext_bts s p n hd.2.1]
   unfold toR
   simp only [Option.some.injEq, Prod.mk.injEq, true_and]
   omega
 rw [if_neg h128]
 by_cases h92 : bt s (p : Int) = 92
 ·rw [if_pos h92, if_pos h92, w1]
  by_cases h1 : (p : Int) + 1 < (s.size : Int)
  ·have hb1 := bt_range s ((p : Int) + 1)
   rw [if_pos h1, if_pos (by omega), simple_f _ hb1.1 hb1.2 _ (by omega), Option.bind_some]
   by_cases hsm : 0 ≤ simpF (bt s ((p : Int) + 1))
   ·have hle := simpF_le (bt s ((p : Int) + 1))
    rw [show decide (simpF (bt s ((p : Int) + 1)) ≥ 0) = true from decide_eq_true hsm]
    simp only [spec_l1Piece.j0, if_true]
    rw [w1, if_pos (by omega), if_pos h1, simple_f _ hb1.1 hb1.2 _ (by omega), Option.bind_some, show simpF (bt s ((p : Int) + 1)) % 256 = simpF (bt s ((p : Int) + 1)) by omega]
    unfold escF
    rw [if_pos (by omega), show ((p + 1 : Nat) : Int) = (p : Int) + 1 by omega, if_pos hsm]
    unfold toR
    simp only [Option.some.injEq, Prod.mk.injEq, true_and]
    omega
   ·rw [show decide (simpF (bt s ((p : Int) + 1)) ≥ 0) = false from decide_eq_false hsm, j0_false s p hs hp k, escF_u s p h92 (fun h => hsm h.2)]
  ·rw [if_neg h1, j0_false s p hs hp k, escF_u s p h92 (fun h => h1 (by omega))]
 ·rw [if_neg h92, if_neg h92]
  by_cases h32 : bt s (p : Int) < 32
  ·rw [if_pos h32, if_pos (.inl h32)]
   rfl
  rw [if_neg h32]
  by_cases h34 : bt s (p : Int) = 34
  ·rw [if_pos h34, if_pos (.inr h34)]
   rfl
  rw [if_neg h34, if_neg (show ¬ (bt s (p : Int) < 32 ∨ bt s (p : Int) = 34) by omega), if_pos (show bt s (p : Int) < 128 by omega), w1, if_pos (by omega), if_pos (by omega), show ((p : Int) + 1).toNat = p + 1 by omega, Int.toNat_natCast, ext_bts s p 1 (by omega)]
  unfold toR
  simp only [Option.some.injEq, Prod.mk.injEq]
  exact ⟨rfl, by omega⟩
theorem simpF_range (c : Int) (h : 0 ≤ simpF c) : 0 ≤ simpF c ∧ simpF c ≤ 255 := by have := simpF_le c; omega
theorem escF_range {s : ByteArray} {p q : Nat} {b : List Int} (h : escF s p = some (b, q)) : ∀ x ∈ b, 0 ≤ x ∧ x ≤ 255 := by
 unfold escF at h
 split at h
 ·split at h
  ·injection h with h
   injection h with h1 h2
   subst h1
   intro x hx
   rw [List.mem_singleton] at hx
   subst hx
   exact simpF_range _ (by assumption)
  ·split at h
   ·split at h
    ·cases h
    ·rename_i v hv
     have hle := unitF_le hv
     split at h
     ·cases h
     ·split at h
      ·split at h
       ·split at h
        ·cases h
        ·rename_i u hu
         have hlu := unitF_le hu
         split at h
         ·cases h
         ·injection h with h
          injection h with h1 h2
          subst h1
          exact u8L_range _ (by omega) (by omega)
       ·cases h
      ·injection h with h
       injection h with h1 h2
       subst h1
       exact u8L_range _ (by omega) (by omega)
   ·cases h
 ·cases h
theorem pieceF_range {s : ByteArray} {p q : Nat} {b : List Int} (h : pieceF s p = some (b, q)) : ∀ x ∈ b, 0 ≤ x ∧ x ≤ 255 := by
 unfold pieceF at h
 split at h
 ·exact escF_range h
 ·split at h
  ·cases h
  ·split at h
   ·injection h with h
    injection h with h1 h2
    subst h1
    intro x hx
    rw [List.mem_singleton] at hx
    subst hx
    exact bt_range s _
   ·split at h
    ·cases h
    ·injection h with h
     injection h with h1 h2
     subst h1
     exact btsL_range s _ _
end Go.Proofs.YtbonodglnilkfaaGreatDoor.Str
