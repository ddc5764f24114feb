/- Walks: a point is drawn. Conditions: sizes. -/
import Derived.Test.YtmnpipbchcjgnaaDraw2
namespace Go.Proofs.Ytmnpipbchcjgnaa
open Go.RowKit
set_option linter.unusedVariables false

theorem Drawn.of_ext {w w1 w2 : World} {g : Nat} (e : Ext w w1) (h : Drawn w1 w2 g) : Drawn w w2 g := ⟨grown_then (ext_grown e (some g)) h.1 (.inl rfl), h.2⟩
/-- A write to memory that was made since. -/
theorem Drawn.setc {w w1 : World} {g b i : Nat} (h : Drawn w w1 g) (hb : w.heap.size ≤ b) (hg : g < w.heap.size) (u : Value) : Drawn w (w1.setCell ⟨b, i, none⟩ u) g :=
  h.grown (row := some b) (only_setCell (g := b) (p := ⟨b, i, none⟩) (World.grownBy.refl _ _) (.inl rfl) u) hg (fun k hk => by injection hk with hk; omega)
end Go.Proofs.Ytmnpipbchcjgnaa
