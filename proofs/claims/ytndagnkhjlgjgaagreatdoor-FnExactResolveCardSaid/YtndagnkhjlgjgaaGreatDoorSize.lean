/- impl.size: the contract by hand. -/
import Derived.Test.YtndagnkhjlgjgaaGreatDoorColl
import Derived.Test.YtndagnkhjlgjgaaGreatDoorSzW
namespace Go.Proofs.YtndagnkhjlgjgaaGreatDoor.Impl
open Go Go.Proofs Go.RowKit Go.Maps Go.Sort Go.Shelf YtndagnkhjlgjgaaGreatDoorW.PrintWords Read Val Tree Coll Pf Tchs
set_option linter.unusedVariables false
set_option linter.unusedSimpArgs false
theorem own_cell {w : World} {base : Nat} {e : TypeId} {n : Nat} {v : Value} {xs : List Value} (h : w.ownsRow base e 1 v n xs) (hn : 0 < n) : ∃ g cap, v = .slice (some ⟨g, 0, none⟩) n cap ∧ base ≤ g ∧ ∀ (i : Nat) (c : Value), xs[i]? = some c → w.cell? ⟨g, i, none⟩ = some c := by
 rcases h.2 with ⟨_, h0⟩ | ⟨g, cap, cur, rfl, hb, hg, r1, r2, r3, r4⟩
 ·omega
 ·refine ⟨g, cap, rfl, hb, fun i c hc => ?_⟩
  have h1 := blk_cell hg i
  rw [h1]
  have hi : i < xs.length := (List.getElem?_eq_some_iff.1 hc).1
  have hl : xs.length = n * 1 := h.1
  have h2 : (cur.toList.take (n * 1))[i]? = some c := by rw [r4]; exact hc
  rw [List.getElem?_take_of_lt (by omega)] at h2
  simpa using h2
theorem VM_vals {w : World} {ok : Nat → Prop} : ∀ {l : List (ByteArray × T)} {ds : List (ByteArray × Value)}, VM w ok l ds → VL w ok (l.map Prod.snd) (ds.map (·.2))
 | [], ds, h => by rw [VM] at h; subst h; show VL w ok [] []; rw [VL]
 | (k, t) :: l, ds, h => by
  rw [VM] at h
  obtain ⟨c, r, rfl, h1, h2⟩ := h
  rw [List.map_cons, List.map_cons, VL]
  exact ⟨c, _, rfl, h1, VM_vals h2⟩
theorem VM_ifs {w : World} {ok : Nat → Prop} : ∀ {l : List (ByteArray × T)} {ds : List (ByteArray × Value)}, VM w ok l ds → Ifs ds
 | [], ds, h => by rw [VM] at h; subst h; intro p hp; simp at hp
 | (k, t) :: l, ds, h => by
  rw [VM] at h
  obtain ⟨c, r, rfl, h1, h2⟩ := h
  intro p hp
  rcases List.mem_cons.1 hp with rfl | hp
  ·exact V_iface h1
  ·exact VM_ifs h2 p hp
theorem VM_keys {w : World} {ok : Nat → Prop} : ∀ {l : List (ByteArray × T)} {ds : List (ByteArray × Value)}, VM w ok l ds → ds.map (·.1) = l.map (·.1)
 | [], ds, h => by rw [VM] at h; subst h; rfl
 | (k, t) :: l, ds, h => by
  rw [VM] at h
  obtain ⟨c, r, rfl, h1, h2⟩ := h
  rw [List.map_cons, List.map_cons, VM_keys h2]
theorem VM_sorted {w : World} {ok : Nat → Prop} {l : List (ByteArray × T)} {ds : List (ByteArray × Value)} (h : VM w ok l ds) (hs : l.Pairwise (fun a b => keyB a b = true)) : ds.Pairwise (fun a b => keyB a b = true) := by
 have e : (ds.map (·.1)).Pairwise (fun a b => bytesBefore a.data.toList b.data.toList = true) := by
  rw [VM_keys h, List.pairwise_map]
  exact hs
 rw [List.pairwise_map] at e
 exact e
theorem VL_perm {w : World} {ok : Nat → Prop} {cs cs' : List Value} (h : cs.Perm cs') : ∀ {l : List T}, VL w ok l cs → ∃ l', l.Perm l' ∧ VL w ok l' cs' := by
 induction h with
 | nil => intro l h; exact ⟨l, List.Perm.refl _, h⟩
 | cons x h ih =>
  intro l hl
  cases l with
  | nil => rw [VL] at hl; cases hl
  | cons t l =>
   rw [VL] at hl
   obtain ⟨c, r, e, h1, h2⟩ := hl
   injection e with e1 e2
   subst e1 e2
   obtain ⟨l', p, hl'⟩ := ih h2
   exact ⟨t :: l', p.cons t, by rw [VL]; exact ⟨_, _, rfl, h1, hl'⟩⟩
 | swap x y r =>
  intro l hl
  match l, hl with
  | [], hl => rw [VL] at hl; cases hl
  | [t], hl =>
   rw [VL] at hl
   obtain ⟨c, r', e, h1, h2⟩ := hl
   injection e with e1 e2
   subst e2
   rw [VL] at h2
   cases h2
  | t :: t2 :: l, hl =>
   rw [VL] at hl
   obtain ⟨c, r', e, h1, h2⟩ := hl
   injection e with e1 e2
   subst e1 e2
   rw [VL] at h2
   obtain ⟨c2, r2, e, h3, h4⟩ := h2
   injection e with e1 e2
   subst e1 e2
   refine ⟨t2 :: t :: l, List.Perm.swap _ _ _, ?_⟩
   rw [VL]
   refine ⟨_, _, rfl, h3, ?_⟩
   rw [VL]
   exact ⟨_, _, rfl, h1, h4⟩
 | trans h1 h2 ih1 ih2 =>
  intro l hl
  obtain ⟨l1, p1, hl1⟩ := ih1 hl
  obtain ⟨l2, p2, hl2⟩ := ih2 hl1
  exact ⟨l2, p1.trans p2, hl2⟩
theorem depL_perm {l l' : List T} (h : l.Perm l') : depL l = depL l' := by
 induction h with
 | nil => rfl
 | cons x h ih => rw [depL_cons, depL_cons, ih]
 | swap x y r => rw [depL_cons, depL_cons, depL_cons, depL_cons]; omega
 | trans h1 h2 ih1 ih2 => rw [ih1, ih2]
theorem cntL_perm {l l' : List T} (h : l.Perm l') : cntL l = cntL l' := by
 induction h with
 | nil => rfl
 | cons x h ih => rw [cntL_cons, cntL_cons, ih]
 | swap x y r => rw [cntL_cons, cntL_cons, cntL_cons, cntL_cons]; omega
 | trans h1 h2 ih1 ih2 => rw [ih1, ih2]
theorem collect_vals (w : World) (g nn : Nat) (ds : List (ByteArray × Value)) (hown : w.ownsMap Tryz.prog 9 Rd g nn (encM ds)) (hi : Ifs ds) (hs : ds.Pairwise (fun a b => keyB a b = true)) (hl : ds.length ≤ 1000000) :
  Calls Tryz.prog 96 #[.func (.func 126) #[] #[.pointer (some ⟨w.heap.size, 0, none⟩)]] (w.alloc (.cells #[.map (some g)] 103)) fun e w' =>
   ∃ (v : Value) (cs : List Value), e = .returned v ∧ cs.Perm (ds.map (·.2)) ∧ w'.ownsRow (w.alloc (.cells #[.map (some g)] 103)).heap.size 55 1 v cs.length cs ∧ Below (w.alloc (.cells #[.map (some g)] 103)).heap.size (w.alloc (.cells #[.map (some g)] 103)) w' := by
 have hgl := map_lt hown
 have hsz : Maps.size (encM ds) = ds.length := Go.Proofs.YtndagnkhjlgjgaaGreatDoor.Keys.size_enc ds
 have hseq : SeqGives Fence.wide 3 Tryz.prog 126 #[.pointer (some ⟨w.heap.size, 0, none⟩)] encV (fun xs => ∃ ps : List (List UInt8 × (Nat × Value)), (ps.map (·.1)).Perm (strKeys (encM ds)) ∧ (∀ p ∈ ps, PairOf ds p) ∧ xs = ps.map (·.2)) (Maps.size (encM ds)) (w.alloc (.cells #[.map (some g)] 103)) := by
  intro l J W hW hJ hY h0
  refine values1_in 3 (by omega) l w.heap.size g nn ds hi J hY W hJ ?_ ?_ h0
  ·exact (hW.cell (p := ⟨w.heap.size, 0, none⟩) (by simp)).trans (blk_cell (heap_alloc_new w (.cells #[.map (some g)] 103)) 0)
  ·exact map_step hown ((hW.block g (by simp; omega)).trans (Below.heap_alloc _ _ g hgl))
 refine (callsIn_wide.1 (collect_in 5 (by omega) 126 #[.pointer (some ⟨w.heap.size, 0, none⟩)] (enters_of Tryz.func126 (by kernel_rfl) rfl) _ (Maps.size (encM ds)) (by rw [hsz]; simp only [maxLen]; omega) (by rw [hsz]; omega) _ hseq)).mono ?_
 rintro e w' ⟨v, ss, rfl, ⟨ps, h1, h2, rfl⟩, hrow, _, hb⟩
 refine ⟨v, (ps.map (·.2)).map encV, rfl, vals_perm ds hs ps h1 h2, ?_, hb⟩
 simpa using hrow
def SizeOf (t : T) : Prop := ∀ (w : World) (ok : Nat → Prop) (v : Value), V w ok t v → Calls Tryz.prog 53 #[v] w fun e w' => e = .returned (.tuple #[.int .i64 (dep t : Int), .int .i64 (cnt t : Int)]) ∧ Below w.heap.size w w'
set_option maxRecDepth 100000 in
set_option maxHeartbeats 8000000 in
theorem size_one (t : T) (hb : cnt t ≤ 900000) (hw : WF t) (hk : ∀ p ∈ kids t, SizeOf p) : SizeOf t := by
 intro w ok v hv
 have HV := Lib.hid hv
 go_enter Tryz.func53, Tryz.ntmps53
 cases t with
 | nul =>
  rw [V] at hv
  subst hv
  have ha1 := asr_null_list (.agg #[])
  have ha2 := asr_null_object (.agg #[])
  have HD := Lib.hid (show dep (.nul) = 1 ∧ cnt (.nul) = 1 from by rw [dep_kids, cnt_kids]; simp [kids, depL, cntL])
  clear hk hw hb HV
  go_wp2_with fail
  go_loopw [2, 3, 25] (fun v2 v3 v25 wr => v2 = .int .i64 0 ∧ v3 = .int .i64 1 ∧ v25 = .int .i64 0 ∧ Hid (Below w.heap.size w wr)) (fun _ _ _ _ => 0)
  case atStart => exact ⟨by simp, by simp, by simp, Lib.hid (below_alloc (Below.refl _ _) _)⟩
  case round =>
   obtain ⟨rfl, rfl, rfl, HBL⟩ := hrel
   go_wp2_with fail
   go_ret2
   rw [HD.out.1, HD.out.2]
   exact ⟨by simp, HBL.out⟩
 | tru =>
  rw [V] at hv
  subst hv
  have ha1 := asr_truth_list (.bool true)
  have ha2 := asr_truth_object (.bool true)
  have HD := Lib.hid (show dep (.tru) = 1 ∧ cnt (.tru) = 1 from by rw [dep_kids, cnt_kids]; simp [kids, depL, cntL])
  clear hk hw hb HV
  go_wp2_with fail
  go_loopw [2, 3, 25] (fun v2 v3 v25 wr => v2 = .int .i64 0 ∧ v3 = .int .i64 1 ∧ v25 = .int .i64 0 ∧ Hid (Below w.heap.size w wr)) (fun _ _ _ _ => 0)
  case atStart => exact ⟨by simp, by simp, by simp, Lib.hid (below_alloc (Below.refl _ _) _)⟩
  case round =>
   obtain ⟨rfl, rfl, rfl, HBL⟩ := hrel
   go_wp2_with fail
   go_ret2
   rw [HD.out.1, HD.out.2]
   exact ⟨by simp, HBL.out⟩
 | fls =>
  rw [V] at hv
  subst hv
  have ha1 := asr_truth_list (.bool false)
  have ha2 := asr_truth_object (.bool false)
  have HD := Lib.hid (show dep (.fls) = 1 ∧ cnt (.fls) = 1 from by rw [dep_kids, cnt_kids]; simp [kids, depL, cntL])
  clear hk hw hb HV
  go_wp2_with fail
  go_loopw [2, 3, 25] (fun v2 v3 v25 wr => v2 = .int .i64 0 ∧ v3 = .int .i64 1 ∧ v25 = .int .i64 0 ∧ Hid (Below w.heap.size w wr)) (fun _ _ _ _ => 0)
  case atStart => exact ⟨by simp, by simp, by simp, Lib.hid (below_alloc (Below.refl _ _) _)⟩
  case round =>
   obtain ⟨rfl, rfl, rfl, HBL⟩ := hrel
   go_wp2_with fail
   go_ret2
   rw [HD.out.1, HD.out.2]
   exact ⟨by simp, HBL.out⟩
 | num x =>
  rw [V] at hv
  obtain ⟨n, rfl, _, _, _⟩ := hv
  have ha1 := asr_number_list (.int .i64 n)
  have ha2 := asr_number_object (.int .i64 n)
  have HD := Lib.hid (show dep (.num x) = 1 ∧ cnt (.num x) = 1 from by rw [dep_kids, cnt_kids]; simp [kids, depL, cntL])
  clear hk hw hb HV
  go_wp2_with fail
  go_loopw [2, 3, 25] (fun v2 v3 v25 wr => v2 = .int .i64 0 ∧ v3 = .int .i64 1 ∧ v25 = .int .i64 0 ∧ Hid (Below w.heap.size w wr)) (fun _ _ _ _ => 0)
  case atStart => exact ⟨by simp, by simp, by simp, Lib.hid (below_alloc (Below.refl _ _) _)⟩
  case round =>
   obtain ⟨rfl, rfl, rfl, HBL⟩ := hrel
   go_wp2_with fail
   go_ret2
   rw [HD.out.1, HD.out.2]
   exact ⟨by simp, HBL.out⟩
 | str b =>
  rw [V] at hv
  subst hv
  have ha1 := asr_text_list (.string b)
  have ha2 := asr_text_object (.string b)
  have HD := Lib.hid (show dep (.str b) = 1 ∧ cnt (.str b) = 1 from by rw [dep_kids, cnt_kids]; simp [kids, depL, cntL])
  clear hk hw hb HV
  go_wp2_with fail
  go_loopw [2, 3, 25] (fun v2 v3 v25 wr => v2 = .int .i64 0 ∧ v3 = .int .i64 1 ∧ v25 = .int .i64 0 ∧ Hid (Below w.heap.size w wr)) (fun _ _ _ _ => 0)
  case atStart => exact ⟨by simp, by simp, by simp, Lib.hid (below_alloc (Below.refl _ _) _)⟩
  case round =>
   obtain ⟨rfl, rfl, rfl, HBL⟩ := hrel
   go_wp2_with fail
   go_ret2
   rw [HD.out.1, HD.out.2]
   exact ⟨by simp, HBL.out⟩
 | arr l =>
  rw [V] at hv
  obtain ⟨u, cs, rfl, hrow, hok, hvl⟩ := hv
  obtain ⟨A, c, rfl⟩ := own_slice hrow
  have ha1 := asr_list_list (.slice A l.length c)
  have HROW := Lib.hid (hrow.alloc (.cells #[] 55))
  have HVL := Lib.hid (VL_step (w1 := w.alloc (.cells #[] 55)) (ok2 := ok) (fun k _ hk => Below.heap_alloc _ _ k hk) (fun k h _ => h) l cs hvl)
  have HLN := Lib.hid (show l.length = l.length from rfl)
  have HD := Lib.hid (show dep (.arr l) = depL l + 1 ∧ cnt (.arr l) = cntL l + 1 from ⟨dep_kids _, cnt_kids _⟩)
  have HI := Lib.hid (show depL l ≤ 900000 ∧ cntL l ≤ 900000 from by have h1 := cnt_kids (.arr l); have h2 := depL_cnt l; simp only [kids] at h1; omega)
  have HFIN := Lib.hid (show ∀ w', Below (w.alloc (.cells #[] 55)).heap.size (w.alloc (.cells #[] 55)) w' → Below w.heap.size w w' from fun w' h => (below_alloc (Below.refl _ _) _).trans (h.mono (by simp)))
  have HK := Lib.hid (show ∀ p ∈ l, SizeOf p from hk)
  clear hk hw hb HV hrow hok hvl
  go_wp2_with fail
  generalize (w.alloc (.cells #[] 55)) = wL at HROW HVL HFIN ⊢
  obtain ⟨hd9, hc9⟩ := HI.out
  have HNK := Lib.hid (show l.length ≤ 1000000 from by
   have h2 : ∀ l : List T, l.length ≤ cntL l := by
    intro l
    induction l with
    | nil => simp
    | cons x l ih =>
     rw [cntL_cons, List.length_cons]
     have : 1 ≤ cnt x := by rw [cnt_kids]; omega
     omega
   have := h2 l
   omega)
  clear hd9 hc9
  go_loopw [2, 3, 25] (fun v2 v3 v25 wr => ∃ k : Nat, v2 = .int .i64 (depL (l.take k) : Int) ∧ v3 = .int .i64 (((cntL (l.take k) + 1 : Nat)) : Int) ∧ v25 = .int .i64 (k : Int) ∧ Hid (k ≤ l.length) ∧ Hid (Below wL.heap.size wL wr)) (fun _ _ v25 _ => l.length - (intOf v25).toNat)
  case atStart => exact ⟨0, by simp [depL], by simp [cntL], by simp, Lib.hid (Nat.zero_le _), Lib.hid (Below.refl _ _)⟩
  case round =>
   obtain ⟨k, rfl, rfl, rfl, HKL, HBL⟩ := hrel
   by_cases hkn : k < l.length
   ·have d1 : decide ((k : Int) < (l.length : Int)) = true := decide_eq_true (by have := HLN.out; omega)
    have d1n : decide (k < l.length) = true := decide_eq_true (by have := HLN.out; omega)
    have HKN := Lib.hid hkn
    obtain ⟨gg, cap, e0, hbg, hcell⟩ := own_cell HROW.out (by have := HLN.out; omega)
    cases e0
    obtain ⟨ck, hck, hvk⟩ := VL_get HVL.out k l[k] (List.getElem?_eq_getElem hkn)
    obtain ⟨T', x', rfl⟩ := V_iface hvk
    have hc0 := hcell k _ hck
    have hx0 := (HBL.out.cell (World.block_lt_of_cell? wL _ hc0)).trans hc0
    have HCK := Lib.hid (HK.out l[k] (List.getElem_mem hkn) wr ok _ (V_below hvk HBL.out))
    have p4 : ((0 : Int) ≤ (k : Int)) = True := eq_true (by omega)
    have q4 : ((k : Int) < (l.length : Int)) = True := eq_true (by have := HLN.out; omega)
    have hds : depL (l.take (k + 1)) = max (depL (l.take k)) (dep l[k]) := by rw [List.take_succ_eq_append_getElem hkn, depL_snoc]; exact rfl
    have hcs : cntL (l.take (k + 1)) = cntL (l.take k) + cnt l[k] := by rw [List.take_succ_eq_append_getElem hkn, cntL_snoc]; exact rfl
    have hd1 := depL_take l k
    have hc1 := cntL_take l k
    have hd2 := depL_take l (k + 1)
    have hc2 := cntL_take l (k + 1)
    have HB2 := Lib.hid (show depL (l.take (k + 1)) ≤ 900000 ∧ cntL (l.take (k + 1)) ≤ 900000 ∧ depL (l.take k) ≤ 900000 ∧ cntL (l.take k) ≤ 900000 ∧ dep l[k] ≤ 900000 ∧ cnt l[k] ≤ 900000 from by have := HI.out; omega)
    have HDS := Lib.hid hds
    have HCS := Lib.hid hcs
    have hb9 := HB2.out
    have hki : k ≤ 1000000 := by have := HKN.out; have := HNK.out; omega
    clear hc0 hd1 hc1 hd2 hc2 hds hcs hcell hvk hck hbg hkn
    generalize hDe : depL (l.take k) = D at HDS HB2 hb9
    generalize hCe : cntL (l.take k) = C at HCS HB2 hb9
    generalize hde : dep l[k] = dk at HDS HB2 hb9 HCK
    generalize hce : cnt l[k] = ck at HCS HB2 hb9 HCK
    clear hDe hCe hde hce
    have hw1 : IntKind.i64.wrap (((C + 1 : Nat) : Int) + (ck : Int)) = ((C + 1 : Nat) : Int) + (ck : Int) := by rw [IntKind.wrap_i64]; omega
    have hw1' : IntKind.i64.wrap ((C : Int) + 1 + (ck : Int)) = (C : Int) + 1 + (ck : Int) := by rw [IntKind.wrap_i64]; omega
    have hw2 : IntKind.i64.wrap ((k : Int) + 1) = (k : Int) + 1 := by rw [IntKind.wrap_i64]; omega
    clear hb9 hki
    go_wp2_with fail
    refine HCK.out.mono ?_
    rintro e w3 ⟨rfl, hb3⟩
    have HBL3 := Lib.hid (below_then HBL.out HBL.out.size hb3)
    clear hb3 hx0
    go_wp2_with fail
    go_roundw
    case rel =>
     have h1 := HDS.out
     have h2 := HCS.out
     refine ⟨k + 1, ?_, ?_, ?_, Lib.hid (by have := HKN.out; omega), HBL3⟩
     ·rw [h1]; simp; omega
     ·rw [h2]; simp; omega
     ·simp
    case measure =>
     have h5 := HKN.out
     simp [intOf]
     omega
   ·have d1 : decide ((k : Int) < (l.length : Int)) = false := decide_eq_false (by have := HLN.out; omega)
    have d1n : decide (k < l.length) = false := decide_eq_false (by have := HLN.out; omega)
    have hke : k = l.length := by have := HKL.out; omega
    rw [show l.take k = l by rw [hke, List.take_length]]
    have hi := HI.out
    generalize depL l = D at HI HD hi
    generalize cntL l = C at HI HD hi
    have hw1 : IntKind.i64.wrap ((D : Int) + 1) = (D : Int) + 1 := by rw [IntKind.wrap_i64]; omega
    clear hi hke hkn
    go_wp2_with fail
    go_ret2
    refine ⟨?_, HFIN.out _ HBL.out⟩
    rw [HD.out.1, HD.out.2]
    simp
 | obj l =>
  rw [V] at hv
  obtain ⟨g, n, ds, rfl, hg, hmap, hvm⟩ := hv
  have ha1 := asr_object_list (.map (some g))
  have ha2 := asr_object_object (.map (some g))
  have hsd : ds.Pairwise (fun a b => keyB a b = true) := VM_sorted hvm (by rw [WF] at hw; exact hw.2)
  have hln := VM_len hvm
  have hcl : l.length ≤ cntM l := by
   have h2 : ∀ l : List T, l.length ≤ cntL l := by
    intro l
    induction l with
    | nil => simp
    | cons x l ih =>
     rw [cntL_cons, List.length_cons]
     have : 1 ≤ cnt x := by rw [cnt_kids]; omega
     omega
   have := h2 (l.map Prod.snd)
   rw [cntM_kids]
   simpa using this
  have hcm : cnt (.obj l) = cntM l + 1 := by rw [cnt]
  obtain ⟨w0, hw0⟩ : ∃ w0, w0 = w.alloc (.cells #[] 55) := ⟨_, rfl⟩
  have hb0 : Below w.heap.size w w0 := by rw [hw0]; exact below_alloc (Below.refl _ _) _
  have hmap0 : w0.ownsMap Tryz.prog 9 Rd g n (encM ds) := map_step hmap (hb0.block g (map_lt hmap))
  have HC1 := Lib.hid (callsIn_wide.1 (values_in 5 (some g) w0))
  have HC2 := Lib.hid (collect_vals w0 g n ds hmap0 (VM_ifs hvm) hsd (by omega))
  have HVM := Lib.hid (show VL w0 ok (l.map Prod.snd) (ds.map (·.2)) from VL_step (fun k _ hk => hb0.block k hk) (fun k h _ => h) _ _ (VM_vals hvm))
  have HB0 := Lib.hid hb0
  have HK0 := Lib.hid (show ∀ p ∈ l.map Prod.snd, SizeOf p from hk)
  have HD0 := Lib.hid (show dep (.obj l) = depL (l.map Prod.snd) + 1 ∧ cnt (.obj l) = cntL (l.map Prod.snd) + 1 from ⟨dep_kids _, cnt_kids _⟩)
  have HI0 := Lib.hid (show depL (l.map Prod.snd) ≤ 900000 ∧ cntL (l.map Prod.snd) ≤ 900000 from by have h1 := cnt_kids (.obj l); have h2 := depL_cnt (l.map Prod.snd); simp only [kids] at h1; omega)
  clear hk hw hb HV hmap hvm hsd hln hcl hcm hg hb0 hmap0
  go_wp2_with fail
  rw [← hw0]
  clear hw0
  refine HC1.out.mono ?_
  rintro e w1 ⟨rfl, rfl⟩
  go_wp2_with fail
  refine HC2.out.mono ?_
  rintro e w2 ⟨v, cs, rfl, hperm, hrow, hb2⟩
  obtain ⟨ks, hpk, hvl⟩ := VL_perm hperm.symm HVM.out
  obtain ⟨A, c, rfl⟩ := own_slice hrow
  have HROW := Lib.hid hrow
  have hb02 : Below w0.heap.size w0 w2 := (below_alloc (Below.refl _ _) _).trans (hb2.mono (by simp))
  have HVL := Lib.hid (show VL w2 ok ks cs from VL_step (fun k _ hk => hb02.block k hk) (fun k h _ => h) _ _ hvl)
  have HLN := Lib.hid (show cs.length = ks.length from VL_len hvl)
  have HD := Lib.hid (show dep (.obj l) = depL ks + 1 ∧ cnt (.obj l) = cntL ks + 1 from by rw [← depL_perm hpk, ← cntL_perm hpk]; exact HD0.out)
  have HI := Lib.hid (show depL ks ≤ 900000 ∧ cntL ks ≤ 900000 from by rw [← depL_perm hpk, ← cntL_perm hpk]; exact HI0.out)
  have HFIN := Lib.hid (show ∀ w', Below w2.heap.size w2 w' → Below w.heap.size w w' from fun w' h => below_then (HB0.out.trans (hb02.mono HB0.out.size)) (Nat.le_trans HB0.out.size hb02.size) h)
  have HK := Lib.hid (show ∀ p ∈ ks, SizeOf p from fun p hp => HK0.out p (hpk.mem_iff.2 hp))
  clear hperm hrow hb2 hpk hvl hb02 HC1 HC2 HVM HD0 HI0 HK0
  go_wp2_with fail
  obtain ⟨hd9, hc9⟩ := HI.out
  have HNK := Lib.hid (show ks.length ≤ 1000000 from by
   have h2 : ∀ l : List T, l.length ≤ cntL l := by
    intro l
    induction l with
    | nil => simp
    | cons x l ih =>
     rw [cntL_cons, List.length_cons]
     have : 1 ≤ cnt x := by rw [cnt_kids]; omega
     omega
   have := h2 ks
   omega)
  clear hd9 hc9
  go_loopw [2, 3, 25] (fun v2 v3 v25 wr => ∃ k : Nat, v2 = .int .i64 (depL (ks.take k) : Int) ∧ v3 = .int .i64 (((cntL (ks.take k) + 1 : Nat)) : Int) ∧ v25 = .int .i64 (k : Int) ∧ Hid (k ≤ ks.length) ∧ Hid (Below w2.heap.size w2 wr)) (fun _ _ v25 _ => ks.length - (intOf v25).toNat)
  case atStart => exact ⟨0, by simp [depL], by simp [cntL], by simp, Lib.hid (Nat.zero_le _), Lib.hid (Below.refl _ _)⟩
  case round =>
   obtain ⟨k, rfl, rfl, rfl, HKL, HBL⟩ := hrel
   by_cases hkn : k < ks.length
   ·have d1 : decide ((k : Int) < (cs.length : Int)) = true := decide_eq_true (by have := HLN.out; omega)
    have d1n : decide (k < cs.length) = true := decide_eq_true (by have := HLN.out; omega)
    have HKN := Lib.hid hkn
    obtain ⟨gg, cap, e0, hbg, hcell⟩ := own_cell HROW.out (by have := HLN.out; omega)
    cases e0
    obtain ⟨ck, hck, hvk⟩ := VL_get HVL.out k ks[k] (List.getElem?_eq_getElem hkn)
    obtain ⟨T', x', rfl⟩ := V_iface hvk
    have hc0 := hcell k _ hck
    have hx0 := (HBL.out.cell (World.block_lt_of_cell? w2 _ hc0)).trans hc0
    have HCK := Lib.hid (HK.out ks[k] (List.getElem_mem hkn) wr ok _ (V_below hvk HBL.out))
    have p4 : ((0 : Int) ≤ (k : Int)) = True := eq_true (by omega)
    have q4 : ((k : Int) < (cs.length : Int)) = True := eq_true (by have := HLN.out; omega)
    have hds : depL (ks.take (k + 1)) = max (depL (ks.take k)) (dep ks[k]) := by rw [List.take_succ_eq_append_getElem hkn, depL_snoc]; exact rfl
    have hcs : cntL (ks.take (k + 1)) = cntL (ks.take k) + cnt ks[k] := by rw [List.take_succ_eq_append_getElem hkn, cntL_snoc]; exact rfl
    have hd1 := depL_take ks k
    have hc1 := cntL_take ks k
    have hd2 := depL_take ks (k + 1)
    have hc2 := cntL_take ks (k + 1)
    have HB2 := Lib.hid (show depL (ks.take (k + 1)) ≤ 900000 ∧ cntL (ks.take (k + 1)) ≤ 900000 ∧ depL (ks.take k) ≤ 900000 ∧ cntL (ks.take k) ≤ 900000 ∧ dep ks[k] ≤ 900000 ∧ cnt ks[k] ≤ 900000 from by have := HI.out; omega)
    have HDS := Lib.hid hds
    have HCS := Lib.hid hcs
    have hb9 := HB2.out
    have hki : k ≤ 1000000 := by have := HKN.out; have := HNK.out; omega
    clear hc0 hd1 hc1 hd2 hc2 hds hcs hcell hvk hck hbg hkn
    generalize hDe : depL (ks.take k) = D at HDS HB2 hb9
    generalize hCe : cntL (ks.take k) = C at HCS HB2 hb9
    generalize hde : dep ks[k] = dk at HDS HB2 hb9 HCK
    generalize hce : cnt ks[k] = ck at HCS HB2 hb9 HCK
    clear hDe hCe hde hce
    have hw1 : IntKind.i64.wrap (((C + 1 : Nat) : Int) + (ck : Int)) = ((C + 1 : Nat) : Int) + (ck : Int) := by rw [IntKind.wrap_i64]; omega
    have hw1' : IntKind.i64.wrap ((C : Int) + 1 + (ck : Int)) = (C : Int) + 1 + (ck : Int) := by rw [IntKind.wrap_i64]; omega
    have hw2 : IntKind.i64.wrap ((k : Int) + 1) = (k : Int) + 1 := by rw [IntKind.wrap_i64]; omega
    clear hb9 hki
    go_wp2_with fail
    refine HCK.out.mono ?_
    rintro e w3 ⟨rfl, hb3⟩
    have HBL3 := Lib.hid (below_then HBL.out HBL.out.size hb3)
    clear hb3 hx0
    go_wp2_with fail
    go_roundw
    case rel =>
     have h1 := HDS.out
     have h2 := HCS.out
     refine ⟨k + 1, ?_, ?_, ?_, Lib.hid (by have := HKN.out; omega), HBL3⟩
     ·rw [h1]; simp; omega
     ·rw [h2]; simp; omega
     ·simp
    case measure =>
     have h5 := HKN.out
     simp [intOf]
     omega
   ·have d1 : decide ((k : Int) < (cs.length : Int)) = false := decide_eq_false (by have := HLN.out; omega)
    have d1n : decide (k < cs.length) = false := decide_eq_false (by have := HLN.out; omega)
    have hke : k = ks.length := by have := HKL.out; omega
    rw [show ks.take k = ks by rw [hke, List.take_length]]
    have hi := HI.out
    generalize depL ks = D at HI HD hi
    generalize cntL ks = C at HI HD hi
    have hw1 : IntKind.i64.wrap ((D : Int) + 1) = (D : Int) + 1 := by rw [IntKind.wrap_i64]; omega
    clear hi hke hkn
    go_wp2_with fail
    go_ret2
    refine ⟨?_, HFIN.out _ HBL.out⟩
    rw [HD.out.1, HD.out.2]
    simp
theorem size_all : ∀ (n : Nat) (t : T), (cts t).length ≤ n → WF t → cnt t ≤ 900000 → SizeOf t := by
 intro n
 induction n with
 | zero => intro t h hw _; have := cts_pos t hw; omega
 | succ n ih =>
  intro t h hw hs
  refine size_one t hs hw (fun p hp => ?_)
  have h1 := kid_lt t p hp hw
  have h2 : cnt p ≤ cntL (kids t) := by
   have key : ∀ l : List T, p ∈ l → cnt p ≤ cntL l := by
    intro l
    induction l with
    | nil => intro h; simp at h
    | cons x l ih =>
     intro h
     rw [cntL_cons]
     rcases List.mem_cons.1 h with rfl | h
     ·omega
     ·have := ih h; omega
   exact key _ hp
  have h3 := cnt_kids t
  exact ih p (by omega) h1.2 (by omega)
end Go.Proofs.YtndagnkhjlgjgaaGreatDoor.Impl
