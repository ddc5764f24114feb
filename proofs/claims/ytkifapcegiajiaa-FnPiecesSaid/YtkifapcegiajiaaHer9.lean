/- A steady relation: all blocks but three are as they were. No condition. -/
import Derived.Test.YtkifapcegiajiaaHer6
namespace Go.Proofs.Ytkifapcegiajiaa
open Go.RowKit
set_option linter.unusedVariables false

structure Kept3 (g r s : Nat) (w w' : World) : Prop where
  os : w'.os = w.os
  tape : w'.tape = w.tape
  output : w'.output = w.output
  size : w.heap.size ≤ w'.heap.size
  block : ∀ i, i < w.heap.size → i ≠ g → i ≠ r → i ≠ s → w'.heap[i]? = w.heap[i]?
theorem Kept3.refl (g r s : Nat) (w : World) : Kept3 g r s w w := ⟨rfl, rfl, rfl, Nat.le_refl _, fun _ _ _ _ _ => rfl⟩
theorem Kept3.trans {g r s : Nat} {a b c : World} (h : Kept3 g r s a b) (k : Kept3 g r s b c) : Kept3 g r s a c :=
  ⟨k.os.trans h.os, k.tape.trans h.tape, k.output.trans h.output, Nat.le_trans h.size k.size, fun i hi h1 h2 h3 => (k.block i (Nat.lt_of_lt_of_le hi h.size) h1 h2 h3).trans (h.block i hi h1 h2 h3)⟩
theorem Kept3.grown {g r s : Nat} {w w' : World} {x : Nat} (h : w.grownBy w' (some x)) (hx : x = g ∨ x = r ∨ x = s) : Kept3 g r s w w' := ⟨h.os, h.tape, h.output, h.size, fun i hi h1 h2 h3 => h.block i hi (by intro e; injection e with e; omega)⟩
open Classical in
noncomputable def ovt (g r s : Nat) (w x : World) : World := if Kept3 g r s w x then x else w
theorem ovt_kept (g r s : Nat) (w x : World) : Kept3 g r s w (ovt g r s w x) := by
  unfold ovt; split
  · assumption
  · exact Kept3.refl _ _ _ _
theorem ovt_of {g r s : Nat} {w x : World} (h : Kept3 g r s w x) : ovt g r s w x = x := by unfold ovt; rw [if_pos h]
@[go_sem] theorem ovt_cell (g r s : Nat) (w x : World) (a : Addr) (h : (w.cell? a).isSome = true) (h1 : ¬ a.block = g) (h2 : ¬ a.block = r) (h3 : ¬ a.block = s) : (ovt g r s w x).cell? a = w.cell? a :=
  World.cell?_of_block ((ovt_kept g r s w x).block _ (lt_of_some h) h1 h2 h3)
def LaterT (g r s : Nat) (w w' : World) : Prop := ∃ x, w' = ovt g r s w x
theorem laterT_of {g r s : Nat} {w w' : World} (h : Kept3 g r s w w') : LaterT g r s w w' := ⟨w', (ovt_of h).symm⟩
theorem laterT_kept {g r s : Nat} {w w' : World} (h : LaterT g r s w w') : Kept3 g r s w w' := by obtain ⟨x, rfl⟩ := h; exact ovt_kept _ _ _ _ _
theorem laterT_steady (g r s : Nat) : Steady (LaterT g r s) := ⟨fun x => laterT_of (Kept3.refl _ _ _ _), fun x y z h k => laterT_of ((laterT_kept h).trans (laterT_kept k))⟩
attribute [go_sem] LaterT
end Go.Proofs.Ytkifapcegiajiaa
