/- What a call may have written: told by sets of blocks. -/
import Derived.Test.YtfadnchkododdaaDoorWKept
import Derived.WalkKit
import Derived.LoopTactic
import Derived.Lib.Hide
namespace Go.Proofs.YtfadnchkododdaaDoor.Tchs
open Go Go.RowKit Go.Proofs.YtfadnchkododdaaDoorW.PrintWords
set_option linter.unusedVariables false

/-- From w to w' no more than S's blocks were written; what is new is free. -/
structure Tch (w w' : World) (S : Nat → Prop) : Prop where
  os : w'.os = w.os
  tape : w'.tape = w.tape
  output : w'.output = w.output
  kept : Kept w w' S
theorem Tch.refl (w : World) (S : Nat → Prop) : Tch w w S := ⟨rfl, rfl, rfl, Kept.refl w S⟩
theorem Tch.then_ {w w1 w2 : World} {S S2 : Nat → Prop} (h : Tch w w1 S) (k : Tch w1 w2 S2) (hs : ∀ k, S2 k → S k ∨ w.heap.size ≤ k) : Tch w w2 S :=
  ⟨k.os.trans h.os, k.tape.trans h.tape, k.output.trans h.output, h.kept.then_ k.kept hs⟩
theorem Tch.below {w w1 w2 : World} {S : Nat → Prop} (h : Tch w w1 S) (k : Below w1.heap.size w1 w2) : Tch w w2 S :=
  ⟨k.os.trans h.os, k.tape.trans h.tape, k.output.trans h.output, h.kept.below k⟩
theorem Tch.setCell {w w1 : World} {S : Nat → Prop} (h : Tch w w1 S) {p : Addr} (hp : S p.block ∨ w.heap.size ≤ p.block) (u : Value) : Tch w (w1.setCell p u) S :=
  ⟨h.os, h.tape, h.output, h.kept.setCell hp u⟩
theorem Tch.alloc {w w1 : World} {S : Nat → Prop} (h : Tch w w1 S) (o : Obj) : Tch w (w1.alloc o) S := h.below (below_alloc (Below.refl _ _) o)
theorem Tch.mono {w w1 : World} {S S' : Nat → Prop} (h : Tch w w1 S) (hs : ∀ k, S k → S' k) : Tch w w1 S' := ⟨h.os, h.tape, h.output, h.kept.mono hs⟩
theorem Tch.to_below {w w1 : World} {S : Nat → Prop} {B : Nat} (h : Tch w w1 S) (hB : B ≤ w.heap.size) (hS : ∀ k, S k → B ≤ k) : Below B w w1 :=
  ⟨h.os, h.tape, h.output, h.kept.1, fun k hk => h.kept.2 k (by omega) (fun hs => by have := hS k hs; omega)⟩
theorem Tch.of_below {w w1 : World} (h : Below w.heap.size w w1) (S : Nat → Prop) : Tch w w1 S := ⟨h.os, h.tape, h.output, Kept.of_below h S⟩
theorem Tch.drew {w w1 : World} {S : Nat → Prop} (h : Tch w w1 S) : Tch w w1.drew S := h.below (below_drew (Below.refl _ _))
theorem Tch.drewN {w w1 : World} {S : Nat → Prop} (h : Tch w w1 S) (m : Nat) : Tch w (w1.drewN m) S := h.below (pw_below_drewN (Below.refl _ _) m)
theorem Tch.grown {w w1 w2 : World} {S : Nat → Prop} {row : Option Nat} (h : Tch w w1 S) (hg : w1.grownBy w2 row) (hr : ∀ k, row = some k → S k ∨ w.heap.size ≤ k) : Tch w w2 S :=
  ⟨hg.os.trans h.os, hg.tape.trans h.tape, hg.output.trans h.output, Kept.of_grown hg h.kept hr⟩
end Go.Proofs.YtfadnchkododdaaDoor.Tchs
