/- The printed l1Find and l1Sorted of the reference's side, in this session's words. Plain. -/
import Derived.Test.YtndagnkhjlgjgaaGreatDoorPfA
import Derived.Test.YtndagnkhjlgjgaaGreatDoorMake
namespace Go.Proofs.YtndagnkhjlgjgaaGreatDoor.Pf
open Go Go.RowKit YtndagnkhjlgjgaaGreatDoorW.PrintWords Str Tree Read PJt Own
set_option linter.unusedVariables false
set_option linter.unusedSimpArgs false
abbrev Prt := S92
theorem rd_get (ps : List Prt) (i : Nat) (h : i < ps.length) : rd_T92 ps (i : Int) = ps[i] := by
 unfold rd_T92
 simp [h]
def findP (k : ByteArray) : List Prt → Nat → Int
 | [], _ => -1
 | p :: r, i => if p.f0.data.toList = k.data.toList then (i : Int) else findP k r (i + 1)
theorem find_l (ps : List Prt) (hn : ps.length ≤ 100000000) (key : ByteArray) : ∀ (n i k : Nat), ps.length - i = n → i ≤ ps.length → n + 1 ≤ k → spec_l1Find.l0 k ps key (i : Int) = some (findP key (ps.drop i) i) := by
 intro n
 induction n with
 | zero =>
  intro i k hi hl hk
  obtain ⟨k, rfl⟩ : ∃ j, k = j + 1 := ⟨k - 1, by omega⟩
  rw [spec_l1Find.l0, if_neg (by omega), List.drop_of_length_le (by omega)]
  rfl
 | succ n ih =>
  intro i k hi hl hk
  obtain ⟨k, rfl⟩ : ∃ j, k = j + 1 := ⟨k - 1, by omega⟩
  have hw : wrap64 ((i : Int) + 1) = ((i + 1 : Nat) : Int) := by rw [w64 (by omega) (by omega)]; omega
  rw [spec_l1Find.l0, if_pos (by omega), if_pos (by omega), rd_get ps i (by omega), hw, ih (i + 1) k (by omega) (by omega) (by omega), List.drop_eq_getElem_cons (by omega : i < ps.length), findP, Lib.toList_data, Lib.toList_data]
  by_cases h : (ps[i]'(by omega)).f0.data.toList = key.data.toList
  ·rw [if_pos h, if_pos h]
  ·rw [if_neg h, if_neg h]
theorem find_f (ps : List Prt) (hn : ps.length ≤ 100000000) (key : ByteArray) (k : Nat) (hk : ps.length + 1 ≤ k) : spec_l1Find.f k ps key = some (findP key ps 0) := by
 unfold spec_l1Find.f
 exact find_l ps hn key _ 0 k rfl (by omega) (by omega)
theorem findP_has (key : ByteArray) : ∀ (ps : List Prt) (i : Nat), decide (findP key ps i ≥ 0) = ps.any fun p => p.f0.data.toList == key.data.toList
 | [], i => rfl
 | p :: r, i => by
  rw [findP, List.any_cons, ← findP_has key r (i + 1)]
  by_cases h : p.f0.data.toList = key.data.toList
  ·rw [if_pos h]; simp [h]
  ·have h2 : (p.f0.data.toList == key.data.toList) = false := by rw [beq_eq_false_iff_ne]; exact h
   rw [if_neg h, h2, Bool.false_or]
def pr (p : Prt) : ByteArray × ByteArray := (p.f0, p.f1)
def Rise (l : List (ByteArray × ByteArray)) : Prop := l.Pairwise fun a b => keyB b a = false
theorem less_key (a b : Prt) : Op.bytesLess a.f0.toList b.f0.toList = keyB (pr a) (pr b) := by
 rw [less_before, Lib.toList_data, Lib.toList_data]
 rfl
theorem keyB_asymm {α : Type} {a b : ByteArray × α} (h : keyB a b = true) : keyB b a = false := by
 unfold keyB at *
 cases hc : bytesBefore b.1.data.toList a.1.data.toList with
 | false => rfl
 | true =>
  have := Go.WideShapes.bytes_trans _ _ _ h hc
  rw [Go.WideAt.bytes_irrefl] at this
  cases this
theorem keyB_trans2 {α : Type} {a b c : ByteArray × α} (h1 : keyB a b = true) (h2 : keyB c b = false) : keyB a c = true := by
 unfold keyB at *
 by_cases e : b.1.data.toList = c.1.data.toList
 ·rw [← e]; exact h1
 ·rcases Go.WideAt.bytes_total _ _ e with h | h
  ·exact Go.WideShapes.bytes_trans _ _ _ h1 h
  ·rw [h] at h2; cases h2
theorem insK_split (x : ByteArray × ByteArray) : ∀ (a b : List (ByteArray × ByteArray)), (∀ y ∈ a, keyB x y = false) → (∀ y ∈ b, keyB x y = true) → insK x (a ++ b) = a ++ x :: b
 | [], [], _, _ => rfl
 | [], y :: b, _, hb => by
  show insK x (y :: b) = _
  unfold insK
  rw [if_pos (hb y (by simp))]
  rfl
 | y :: a, b, ha, hb => by
  show insK x (y :: (a ++ b)) = _
  unfold insK
  rw [if_neg (by rw [ha y (by simp)]; simp), insK_split x a b (fun z hz => ha z (by simp [hz])) hb]
  rfl
theorem insK_rise (x : ByteArray × ByteArray) : ∀ l, Rise l → Rise (insK x l)
 | [], _ => by simp [insK, Rise]
 | y :: r, h => by
  have h0 := h
  unfold Rise at h ⊢
  rw [List.pairwise_cons] at h
  unfold insK
  by_cases hb : keyB x y = true
  ·rw [if_pos hb, List.pairwise_cons]
   refine ⟨fun z hz => ?_, h0⟩
   rcases List.mem_cons.1 hz with rfl | hz
   ·exact keyB_asymm hb
   ·exact keyB_asymm (keyB_trans2 hb (h.1 z hz))
  ·rw [if_neg hb, List.pairwise_cons]
   refine ⟨fun z hz => ?_, insK_rise x r h.2⟩
   rcases (mem_insK x r z).1 hz with rfl | hz
   ·simpa using hb
   ·exact h.1 z hz
theorem sort_l1 (ps : List Prt) (x : Prt) (x4 : Int) : ∀ (j : Nat) (a b : List Prt) (k : Nat), a.length = j → (∀ y ∈ b, keyB (pr x) (pr y) = true) → Rise (a.map pr) → (a ++ x :: b).length ≤ 100000000 → j + 1 ≤ k →
  ∃ r k2, spec_l1Sorted.l1 k ps (a ++ x :: b) x4 (j : Int) = spec_l1Sorted.l0 k2 ps r (wrap64 (x4 + 1)) ∧ k ≤ k2 + j + 1 ∧ r.map pr = insK (pr x) ((a ++ b).map pr) := by
 intro j
 induction j with
 | zero =>
  intro a b k ha hb hr hn hk
  obtain rfl := List.eq_nil_of_length_eq_zero ha
  obtain ⟨k, rfl⟩ : ∃ j, k = j + 1 := ⟨k - 1, by omega⟩
  refine ⟨[] ++ x :: b, k, ?_, by omega, ?_⟩
  ·rw [spec_l1Sorted.l1, if_neg (by omega)]
  ·have := insK_split (pr x) [] (b.map pr) (by simp) (fun y hy => by obtain ⟨z, hz, rfl⟩ := List.mem_map.1 hy; exact hb z hz)
   simpa using this.symm
 | succ j ih =>
  intro a b k ha hb hr hn hk
  obtain ⟨k, rfl⟩ : ∃ j, k = j + 1 := ⟨k - 1, by omega⟩
  obtain ⟨a', y, rfl⟩ : ∃ a' y, a = a' ++ [y] := by
   have hne : a ≠ [] := fun e => by rw [e] at ha; simp at ha
   exact ⟨a.dropLast, a.getLast hne, (List.dropLast_concat_getLast hne).symm⟩
  have ha' : a'.length = j := by simpa using ha
  have hlen : ((a' ++ [y]) ++ x :: b).length = j + 2 + b.length := by simp; omega
  have hw : wrap64 (((j + 1 : Nat) : Int) - 1) = (j : Int) := by rw [w64 (by omega) (by omega)]; omega
  have g1 : rd_T92 ((a' ++ [y]) ++ x :: b) ((j + 1 : Nat) : Int) = x := by
   rw [rd_get _ _ (by omega), List.getElem_append_right (by simp; omega)]
   simp [ha']
  have g2 : rd_T92 ((a' ++ [y]) ++ x :: b) (j : Int) = y := by
   rw [rd_get _ _ (by omega), List.getElem_append_left (by simp; omega), List.getElem_append_right (by omega)]
   simp [ha']
  rw [spec_l1Sorted.l1, if_pos (by omega), if_pos (by omega), if_pos (by omega), hw, if_pos (by omega), if_pos (by omega), g1, g2, less_key]
  have hr2 : Rise (a'.map pr) ∧ ∀ z ∈ a', keyB (pr y) (pr z) = false := by
   unfold Rise at hr ⊢
   rw [List.map_append, List.pairwise_append] at hr
   exact ⟨hr.1, fun z hz => hr.2.2 (pr z) (List.mem_map_of_mem hz) (pr y) (by simp)⟩
  by_cases hlt : keyB (pr x) (pr y) = true
  ·rw [if_pos hlt]
   have hset : ((((a' ++ [y]) ++ x :: b).set ((j + 1 : Nat) : Int).toNat (⟨y.f0, y.f1⟩ : Prt)).set (j : Int).toNat (⟨x.f0, x.f1⟩ : Prt)) = a' ++ x :: (y :: b) := by
    rw [Int.toNat_natCast, Int.toNat_natCast]
    have e1 : ((a' ++ [y]) ++ x :: b).set (j + 1) (⟨y.f0, y.f1⟩ : Prt) = a' ++ (y :: y :: b) := by
     rw [List.set_append_right _ _ (by simp; omega)]
     simp [ha']
    rw [e1, List.set_append_right _ _ (by omega)]
    simp [ha']
   rw [hset]
   obtain ⟨r, k2, h1, h2, h3⟩ := ih a' (y :: b) k ha' (fun z hz => by rcases List.mem_cons.1 hz with rfl | hz; exact hlt; exact hb z hz) hr2.1 (by simp at hn ⊢; omega) (by omega)
   refine ⟨r, k2, h1, by omega, ?_⟩
   rw [h3]
   simp
  ·rw [if_neg hlt]
   refine ⟨(a' ++ [y]) ++ x :: b, k, rfl, by omega, ?_⟩
   have hxy : keyB (pr x) (pr y) = false := by simpa using hlt
   have := insK_split (pr x) ((a' ++ [y]).map pr) (b.map pr) (fun z hz => by
    obtain ⟨u, hu, rfl⟩ := List.mem_map.1 hz
    rcases List.mem_append.1 hu with hu | hu
    ·cases hc : keyB (pr x) (pr u) with
     | false => rfl
     | true =>
      have h5 := keyB_trans2 hc (hr2.2 u hu)
      rw [hxy] at h5
      cases h5
    ·simp at hu; subst hu; exact hxy) (fun z hz => by obtain ⟨u, hu, rfl⟩ := List.mem_map.1 hz; exact hb u hu)
   simp only [List.map_append, List.map_cons, List.map_nil] at this ⊢
   exact this.symm
theorem sort_l0 (ps : List Prt) (hn : ps.length ≤ 1000000) : ∀ (m i : Nat) (x3 : List Prt) (k : Nat), ps.length - i = m → i ≤ ps.length → x3.map pr = sortP ((ps.take i).map pr) → Rise (x3.map pr) → m * (ps.length + 3) + 1 ≤ k →
  ∃ r, spec_l1Sorted.l0 k ps x3 (i : Int) = some r ∧ r.map pr = sortP (ps.map pr) := by
 intro m
 induction m with
 | zero =>
  intro i x3 k hm hi hx hr hk
  obtain ⟨k, rfl⟩ : ∃ j, k = j + 1 := ⟨k - 1, by omega⟩
  refine ⟨x3, ?_, ?_⟩
  ·rw [spec_l1Sorted.l0, if_neg (by omega)]
  ·rw [hx, List.take_of_length_le (by omega)]
 | succ m ih =>
  intro i x3 k hm hi hx hr hk
  obtain ⟨k, rfl⟩ : ∃ j, k = j + 1 := ⟨k - 1, by omega⟩
  have hsl : ∀ l : List (ByteArray × ByteArray), (sortP l).length = l.length := by
   have key : ∀ (l m : List (ByteArray × ByteArray)), (l.foldl (fun m x => insK x m) m).length = l.length + m.length := by
    have ki : ∀ (x : ByteArray × ByteArray) (l : List (ByteArray × ByteArray)), (insK x l).length = l.length + 1 := by
     intro x l
     induction l with
     | nil => rfl
     | cons y r ih =>
      unfold insK
      split
      ·rfl
      ·rw [List.length_cons, ih]; rfl
    intro l
    induction l with
    | nil => intro m; simp
    | cons x l ih => intro m; rw [List.foldl_cons, ih, ki, List.length_cons]; omega
   intro l
   unfold sortP
   rw [key]
   rfl
  have hxl : x3.length = i := by
   have h1 : (x3.map pr).length = (sortP ((ps.take i).map pr)).length := by rw [hx]
   rw [hsl] at h1
   simp at h1
   omega
  have hin : i < ps.length := by omega
  have hw : wrap64 (((x3 ++ [ps[i]]).length : Int) - 1) = ((x3.length : Nat) : Int) := by
   rw [List.length_append, List.length_cons, List.length_nil, w64 (by omega) (by omega)]
   omega
  have hw2 : wrap64 ((i : Int) + 1) = ((i + 1 : Nat) : Int) := by rw [w64 (by omega) (by omega)]; omega
  have hmul : (m + 1) * (ps.length + 3) = m * (ps.length + 3) + (ps.length + 3) := by rw [Nat.add_mul, Nat.one_mul]
  rw [spec_l1Sorted.l0, if_pos (by omega), if_pos (by omega), if_pos (by omega), Option.bind_some, rd_get ps i hin]
  obtain ⟨r, k2, h1, h2, h3⟩ := sort_l1 ps ps[i] (i : Int) x3.length x3 [] k rfl (by simp) hr (by simp; omega) (by omega)
  have he : (x3 ++ [(⟨(ps[i]).f0, (ps[i]).f1⟩ : Prt)]) = x3 ++ [ps[i]] := rfl
  rw [he, hw, h1, hw2]
  have h4 : r.map pr = sortP ((ps.take (i + 1)).map pr) := by
   rw [h3, List.append_nil, hx, List.take_succ_eq_append_getElem hin, List.map_append]
   unfold sortP
   rw [List.foldl_append]
   rfl
  refine ih (i + 1) r k2 (by omega) (by omega) h4 ?_ (by omega)
  rw [h3, List.append_nil]
  exact insK_rise _ _ hr
theorem sort_f (ps : List Prt) (hn : ps.length ≤ 1000000) (k : Nat) (hk : ps.length * (ps.length + 3) + 1 ≤ k) : ∃ r, spec_l1Sorted.f k ps = some r ∧ r.map pr = sortP (ps.map pr) := by
 unfold spec_l1Sorted.f
 exact sort_l0 ps hn ps.length 0 [] k (by omega) (by omega) rfl List.Pairwise.nil hk
theorem skip_le (s : ByteArray) (p : Nat) : p ≤ skip s p ∧ (p ≤ s.size → skip s p ≤ s.size) := runF_le isB s p
theorem itemsF_congr {s : ByteArray} {v v' : Nat → Option (T × Nat)} (hv : ∀ q t r, v q = some (t, r) → q + 1 ≤ r ∧ r ≤ s.size) : ∀ (k q0 q : Nat), (∀ q, q0 ≤ q → v q = v' q) → q0 ≤ q → itemsF s v k q = itemsF s v' k q
 | 0, _, _, _, _ => rfl
 | k + 1, q0, q, h, hq => by
  rw [itemsF, itemsF, ← h q hq]
  cases hx : v q with
  | none => rfl
  | some x =>
   obtain ⟨t, r⟩ := x
   have h1 := hv q t r hx
   have h2 := skip_le s r
   have h3 := skip_le s (skip s r + 1)
   simp only
   rw [itemsF_congr hv k q0 (skip s (skip s r + 1)) h (by omega)]
theorem membersF_congr {s : ByteArray} {v v' : Nat → Option (T × Nat)} (hv : ∀ q t r, v q = some (t, r) → q + 1 ≤ r ∧ r ≤ s.size) : ∀ (k q0 q : Nat), (∀ q, q0 ≤ q → v q = v' q) → q0 ≤ q → membersF s v k q = membersF s v' k q
 | 0, _, _, _, _ => rfl
 | k + 1, q0, q, h, hq => by
  rw [membersF, membersF]
  cases hs : strF s q with
  | none => rfl
  | some x =>
   obtain ⟨b, r1⟩ := x
   have h0 := strF_le hs
   have h4 := skip_le s r1
   have h5 := skip_le s (skip s r1 + 1)
   simp only
   rw [← h (skip s (skip s r1 + 1)) (by omega)]
   cases hx : v (skip s (skip s r1 + 1)) with
   | none => rfl
   | some x =>
    obtain ⟨t, r⟩ := x
    have h1 := hv _ t r hx
    have h2 := skip_le s r
    have h3 := skip_le s (skip s r + 1)
    simp only
    rw [membersF_congr hv k q0 (skip s (skip s r + 1)) h (by omega)]
theorem val_more (s : ByteArray) : ∀ (d e p : Nat), s.size < p + d → s.size < p + e → val s d p = val s e p := by
 intro d
 induction d with
 | zero =>
  intro e p h1 h2
  cases e with
  | zero => rfl
  | succ e => rw [val_end s e p (by omega)]; rfl
 | succ d ih =>
  intro e p h1 h2
  cases e with
  | zero => rw [val_end s d p (by omega)]; rfl
  | succ e =>
   have hsk := skip_le s (p + 1)
   have i1 : itemsF s (fun q => val s d q) s.size (skip s (p + 1)) = itemsF s (fun q => val s e q) s.size (skip s (p + 1)) :=
    itemsF_congr (fun q t r hh => val_le s d q t r hh) _ (p + 1) _ (fun q hq => ih e q (by omega) (by omega)) (by omega)
   have i2 : membersF s (fun q => val s d q) s.size (skip s (p + 1)) = membersF s (fun q => val s e q) s.size (skip s (p + 1)) :=
    membersF_congr (fun q t r hh => val_le s d q t r hh) _ (p + 1) _ (fun q hq => ih e q (by omega) (by omega)) (by omega)
   rw [val, val, i1, i2]
def gotF (s : ByteArray) (i : Nat) : ByteArray × Int × Bool × Bool × Bool :=
 if isAt s i 34 = true then (strOfNums (quo (strOfNums (strXF s i).1)), ((strXF s i).2.1 : Int), (strXF s i).2.2, false, false)
 else match val s (s.size + 1) i with
  | none => noGot
  | some (t, q) => (strOfNums (txs t), (q : Int), true, big bigB t, twice t)
theorem val_str (s : ByteArray) (i : Nat) (h : isAt s i 34 = true) : val s (s.size + 1) i = (strF s i).map fun x => (.str (strOfNums x.1), x.2) := by
 have h1 := isAt_lt h
 exact val_q s s.size i h1.1 h1.2
theorem got_some {s : ByteArray} {i q : Nat} {t : T} (h : val s (s.size + 1) i = some (t, q)) : gotF s i = (strOfNums (txs t), (q : Int), true, big bigB t, twice t) := by
 unfold gotF
 by_cases c : isAt s i 34 = true
 ·rw [if_pos c]
  rw [val_str s i c, strXF_strF] at h
  by_cases o : (strXF s i).2.2 = true
  ·rw [if_pos o] at h
   injection h with h
   injection h with h h'
   subst h
   rw [o, txs, big, twice, ← h'] <;> simp
  ·rw [if_neg o] at h; cases h
 ·rw [if_neg c, h]
theorem got_none {s : ByteArray} {i : Nat} (h : val s (s.size + 1) i = none) : (gotF s i).2.2.1 = false := by
 unfold gotF
 by_cases c : isAt s i 34 = true
 ·rw [if_pos c]
  rw [val_str s i c, strXF_strF] at h
  by_cases o : (strXF s i).2.2 = true
  ·rw [if_pos o] at h; cases h
  ·simpa using o
 ·rw [if_neg c, h]; rfl
theorem str_size (l : List Int) : (strOfNums l).size = l.length := strOfNums_size l
theorem e91 : (⟨#[91]⟩ : ByteArray) = strOfNums [91] := rfl
theorem e93 : (⟨#[93]⟩ : ByteArray) = strOfNums [93] := rfl
theorem e44 : (⟨#[44]⟩ : ByteArray) = strOfNums [44] := rfl
theorem e9193 : (⟨#[91, 93]⟩ : ByteArray) = strOfNums [91, 93] := rfl
theorem size_more (x : ByteArray) (c : UInt8) (r q : Nat) (h : x.size ≤ 26 * r + 1) (h2 : r + 1 ≤ q) : (x ++ (⟨#[c]⟩ : ByteArray)).size ≤ 26 * q + 1 := by
 rw [ByteArray.size_append, show (⟨#[c]⟩ : ByteArray).size = 1 from rfl]
 omega
section
variable [Inhabited Rec]
def arrG (s : ByteArray) (n i : Nat) (txt : ByteArray) (bg tw : Bool) : ByteArray × Int × Bool × Bool × Bool := match itemsF s (fun q => val s (s.size + 1) q) n i with
 | none => noGot
 | some (l, r) => (txt ++ strOfNums ((txsL l).drop 1 ++ [93]), (r : Int), true, bg || bigL bigB l, tw || twiceL l)
theorem arr_l0 (s : ByteArray) (hs : s.size ≤ 1048576) (lo : Nat) (HV : ∀ i : Nat, lo < i → i ≤ s.size → spec_l1Value.f s (i : Int) = some (gotF s i)) :
  ∀ (n i k : Nat) (txt : ByteArray) (nx : Int) (bg tw : Bool), lo < i → i ≤ s.size → s.size < i + n → txt.size ≤ 26 * i + 1 → 3 * n + s.size + 10 ≤ k → spec_l1Array.l0 k s (i : Int) txt nx true bg tw = some (arrG s n i txt bg tw) := by
 intro n
 induction n with
 | zero => intro i k txt nx bg tw h1 h2 h3; omega
 | succ n ih =>
  intro i k txt nx bg tw h1 h2 h3 h4 hk
  have H4 := Lib.hid h4
  clear h4
  obtain ⟨k, rfl⟩ : ∃ j, k = j + 3 := ⟨k - 3, by omega⟩
  rw [spec_l1Array.l0, HV i h1 h2, Option.bind_some]
  unfold arrG
  rw [itemsF]
  cases hv : val s (s.size + 1) i with
  | none =>
   rw [got_none hv, if_neg (by simp)]
   rfl
  | some x =>
   obtain ⟨t, r⟩ := x
   have hle := val_le s _ _ t r hv
   have hln := val_len s _ _ t r hv
   have hsk := skip_le s r
   have hsk2 := skip_le s (skip s r + 1)
   rw [got_some hv]
   simp only
   rw [if_pos trivial, if_pos (by rw [str_size]; have := H4.out; omega)]
   have e1 : ∀ b1 b2 : Bool, b1 = (bg || big bigB t) → b2 = (tw || twice t) → spec_l1Array.j2 (k + 1) s (txt ++ strOfNums (txs t)) nx true b1 b2 (strOfNums (txs t)) (r : Int) true (big bigB t) (twice t) = some (match (if isAt s (skip s r) 93 = true then some ([t], skip s r + 1) else if isAt s (skip s r) 44 = true then (itemsF s (fun q => val s (s.size + 1) q) n (skip s (skip s r + 1))).map fun x => (t :: x.1, x.2) else none) with
     | none => noGot
     | some (l, r) => (txt ++ strOfNums ((txsL l).drop 1 ++ [93]), (r : Int), true, bg || bigL bigB l, tw || twiceL l)) := by
    intro b1 b2 hb1 hb2
    have HW := Lib.hid (show wrap64 (((skip s r : Nat) : Int) + 1) = ((skip s r + 1 : Nat) : Int) by rw [w64 (by omega) (by omega)]; omega)
    have HZ := Lib.hid (show (txt ++ strOfNums (txs t)).size ≤ 26 * r + 1 by rw [ByteArray.size_append, str_size]; have := H4.out; omega)
    have hbd : ∀ A : Nat, A ≤ 26 * r + 1 → A + 1 ≤ 9223372036854775807 := fun A hA => by omega
    rw [spec_l1Array.j2, skip_f s (by omega) r k (by omega), Option.bind_some, show (93 : Int) = 93 from rfl, at_f, Option.bind_some]
    by_cases c1 : isAt s (skip s r) 93 = true
    ·rw [if_pos c1, if_pos c1, if_pos (hbd _ HZ.out), HW.out]
     simp only
     rw [hb1, hb2, txsL, txsL, bigL, bigL, twiceL, twiceL, Bool.or_false, Bool.or_false, List.append_nil, List.drop_one, List.tail_cons, str_app, ByteArray.append_assoc, e93]
    ·rw [if_neg c1, if_neg c1, at_f, Option.bind_some]
     by_cases c2 : isAt s (skip s r) 44 = true
     ·have hlt := isAt_lt c2
      have hr1 : r + 1 ≤ skip s (skip s r + 1) := by omega
      have HZ2 := Lib.hid (show ((txt ++ strOfNums (txs t)) ++ (⟨#[44]⟩ : ByteArray)).size ≤ 26 * skip s (skip s r + 1) + 1 from size_more (txt ++ strOfNums (txs t)) 44 r (skip s (skip s r + 1)) HZ.out hr1)
      rw [if_pos c2, if_pos c2, if_pos (hbd _ HZ.out), HW.out, skip_f s (by omega) _ k (by omega), Option.bind_some, ih (skip s (skip s r + 1)) k ((txt ++ strOfNums (txs t)) ++ (⟨#[44]⟩ : ByteArray)) nx b1 b2 (by omega) (by omega) (by omega) HZ2.out (by omega)]
      unfold arrG
      cases hi : itemsF s (fun q => val s (s.size + 1) q) n (skip s (skip s r + 1)) with
      | none => rfl
      | some y =>
       obtain ⟨l, r2⟩ := y
       simp only [Option.map_some]
       obtain ⟨tt, ll, rfl⟩ : ∃ tt ll, l = tt :: ll := by
        cases l with
        | nil =>
         exfalso
         cases n with
         | zero => cases hi
         | succ n =>
          rw [itemsF] at hi
          revert hi
          repeat' split
          all_goals simp
        | cons tt ll => exact ⟨tt, ll, rfl⟩
       have eT : ((txt ++ strOfNums (txs t)) ++ (⟨#[44]⟩ : ByteArray)) ++ strOfNums ((txsL (tt :: ll)).drop 1 ++ [93]) = txt ++ strOfNums ((txsL (t :: tt :: ll)).drop 1 ++ [93]) := by
        rw [show txsL (t :: tt :: ll) = 44 :: (txs t ++ txsL (tt :: ll)) by rw [txsL], show txsL (tt :: ll) = 44 :: (txs tt ++ txsL ll) by rw [txsL], List.drop_one, List.tail_cons, List.drop_one, List.tail_cons, ByteArray.append_assoc, ByteArray.append_assoc, e44, ← str_app, ← str_app]
        simp only [List.append_assoc, List.cons_append, List.nil_append]
       rw [eT, hb1, hb2, show bigL bigB (t :: tt :: ll) = (big bigB t || bigL bigB (tt :: ll)) by rw [bigL], show twiceL (t :: tt :: ll) = (twice t || twiceL (tt :: ll)) by rw [twiceL], Bool.or_assoc, Bool.or_assoc]
     ·rw [if_neg c2, if_neg c2]
      rfl
   cases bg with
   | true =>
    rw [if_pos rfl, spec_l1Array.j1]
    cases tw with
    | true => rw [if_pos rfl]; exact e1 true true (by simp) (by simp)
    | false => rw [if_neg (by simp)]; exact e1 true _ (by simp) (by simp)
   | false =>
    rw [if_neg (by simp), spec_l1Array.j1]
    cases tw with
    | true => rw [if_pos rfl]; exact e1 _ true (by simp) (by simp)
    | false => rw [if_neg (by simp)]; exact e1 _ _ (by simp) (by simp)
theorem arr_f (s : ByteArray) (hs : s.size ≤ 1048576) (p : Nat) (hp : isAt s p 91 = true) (HV : ∀ i : Nat, p < i → i ≤ s.size → spec_l1Value.f s (i : Int) = some (gotF s i)) (k : Nat) (hk : 4 * s.size + 20 ≤ k) :
  spec_l1Array.f k s (p : Int) = some (gotF s p) := by
 have h0 := isAt_lt hp
 have hsk := skip_le s (p + 1)
 have HW2 := Lib.hid (show wrap64 (((skip s (p + 1) : Nat) : Int) + 1) = ((skip s (p + 1) + 1 : Nat) : Int) by rw [w64 (by omega) (by omega)]; omega)
 have HW := Lib.hid (show wrap64 ((p : Int) + 1) = ((p + 1 : Nat) : Int) by rw [w64 (by omega) (by omega)]; omega)
 have hq : isAt s p 34 = false := isAt_no (by omega)
 unfold spec_l1Array.f gotF
 rw [hq, if_neg (by simp), HW.out, skip_f s (by omega) (p + 1) k (by omega), Option.bind_some, at_f, Option.bind_some, val, if_pos hp]
 by_cases c : isAt s (skip s (p + 1)) 93 = true
 ·rw [if_pos c, if_pos c, HW2.out]
  simp only
  rw [txs, txsL, big, bigL, twice, twiceL, e9193, List.drop_nil, List.nil_append]
 ·rw [if_neg c, if_neg c, arr_l0 s hs p HV s.size (skip s (p + 1)) k (⟨#[91]⟩ : ByteArray) 0 false false (by omega) (by omega) (by omega) (by have : (⟨#[91]⟩ : ByteArray).size = 1 := rfl; omega) (by omega)]
  unfold arrG
  have hc : itemsF s (fun q => val s (s.size + 1) q) s.size (skip s (p + 1)) = itemsF s (fun q => val s s.size q) s.size (skip s (p + 1)) :=
   itemsF_congr (fun q t r hh => val_le s _ q t r hh) _ 1 _ (fun q hq => val_more s _ _ q (by omega) (by omega)) (by omega)
  rw [hc]
  cases itemsF s (fun q => val s s.size q) s.size (skip s (p + 1)) with
  | none => rfl
  | some x =>
   obtain ⟨l, r⟩ := x
   simp only [Option.map_some, Bool.false_or]
   rw [txs, big, twice, e91, ← str_app, List.cons_append, List.nil_append]
end
end Go.Proofs.YtndagnkhjlgjgaaGreatDoor.Pf
