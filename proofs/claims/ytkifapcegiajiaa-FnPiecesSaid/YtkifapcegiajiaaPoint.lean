/- Walks: a point is drawn. Conditions: sizes. -/
import Derived.Test.YtkifapcegiajiaaDraw2
namespace Go.Proofs.Ytkifapcegiajiaa
open Go.RowKit
set_option linter.unusedVariables false

theorem Drawn.of_ext {w w1 w2 : World} {g : Nat} (e : Ext w w1) (h : Drawn w1 w2 g) : Drawn w w2 g := ⟨grown_then (ext_grown e (some g)) h.1 (.inl rfl), h.2⟩
/-- A write to memory that was made since. -/
theorem Drawn.setc {w w1 : World} {g b i : Nat} (h : Drawn w w1 g) (hb : w.heap.size ≤ b) (hg : g < w.heap.size) (u : Value) : Drawn w (w1.setCell ⟨b, i, none⟩ u) g :=
  h.grown (row := some b) (only_setCell (g := b) (p := ⟨b, i, none⟩) (World.grownBy.refl _ _) (.inl rfl) u) hg (fun k hk => by injection hk with hk; omega)
set_option maxRecDepth 100000 in
set_option maxHeartbeats 1600000 in
theorem l02Point_any (g : Nat) (w : World) (hc : Cur w g) : Calls Try.prog 97 #[.pointer (some ⟨g, 0, none⟩)] w fun e w' => ∃ x y : Int, e = .returned (.agg #[.int .i64 x, .int .i64 y]) ∧ (-2 ≤ x ∧ x ≤ 6) ∧ (-2 ≤ y ∧ y ≤ 6) ∧ Drawn w w' g := by
  have hlow := hc.lt
  have HC := hid hc
  clear hc
  go_enter Try.func97, Try.ntmps97
  go_wp2_with fail
  refine (l01Below_any g 9 _ (HC.out.ext (by repeat (first | exact Ext.refl _ | refine Ext.alloc ?_ _ | assumption | refine Ext.over ?_ _ | refine Ext.drew ?_ | refine Ext.drewN ?_ _))) (by omega)).mono ?_
  rintro _ w1 ⟨v, rfl, v0, v1, hd⟩
  have p0 : w1.cell? ⟨w.heap.size, 0, none⟩ = some (.int .i64 0) := (hd.cell (p := ⟨w.heap.size, 0, none⟩) (by simp) (by show w.heap.size ≠ g; omega)).trans (by go_simp)
  have p1 : w1.cell? ⟨w.heap.size, 1, none⟩ = some (.int .i64 0) := (hd.cell (p := ⟨w.heap.size, 1, none⟩) (by simp) (by show w.heap.size ≠ g; omega)).trans (by go_simp)
  have b1 : w1.heap[w.heap.size]? = (w.alloc (.cells #[.int .i64 0, .int .i64 0] 35)).heap[w.heap.size]? := hd.1.block _ (by simp) (by intro e; injection e with e; omega)
  have q0 : w1.frozen? ⟨w.heap.size, 0, none⟩ = false := (World.frozen?_of_block (a := ⟨w.heap.size, 0, none⟩) b1).trans (by go_simp)
  have q1 : w1.frozen? ⟨w.heap.size, 1, none⟩ = false := (World.frozen?_of_block (a := ⟨w.heap.size, 1, none⟩) b1).trans (by go_simp)
  have HD1 := hid (Drawn.of_ext (show Ext w _ by repeat (first | exact Ext.refl _ | refine Ext.alloc ?_ _ | assumption | refine Ext.over ?_ _ | refine Ext.drew ?_ | refine Ext.drewN ?_ _)) hd)
  have hs1 := hd.size
  have hsz1 : w.heap.size < w1.heap.size := by simp at hs1; omega
  clear hd b1 hs1
  go_wp2_with fail
  refine (l01Below_any g 9 w1 HD1.out.2 (by omega)).mono ?_
  rintro _ w2 ⟨u, rfl, u0, u1, hd⟩
  have b2 : w2.heap[w.heap.size]? = w1.heap[w.heap.size]? := hd.1.block _ hsz1 (by intro e; injection e with e; omega)
  have p0 := (World.cell?_of_block (a := ⟨w.heap.size, 0, none⟩) b2).trans p0
  have p1 := (World.cell?_of_block (a := ⟨w.heap.size, 1, none⟩) b2).trans p1
  have q0 := (World.frozen?_of_block (a := ⟨w.heap.size, 0, none⟩) b2).trans q0
  have q1 := (World.frozen?_of_block (a := ⟨w.heap.size, 1, none⟩) b2).trans q1
  have HD2 := hid (HD1.out.trans hd)
  have hx : wrap64 (v - 2) = v - 2 := IntWalk.wrap64_in _ (by omega)
  have hy : wrap64 (u - 2) = u - 2 := IntWalk.wrap64_in _ (by omega)
  clear hd b2 HD1
  go_wp2_with fail
  refine bodyPost_ret (v := .agg #[.int .i64 (v - 2), .int .i64 (u - 2)]) (by first | (simp [results, Try.results97, go_sem, p0, p1]; done) | (unfold results; rw [Try.results97]; go_simp)) rfl ?_
  exact ⟨v - 2, u - 2, rfl, by omega, by omega, (HD2.out.setc (Nat.le_refl _) hlow _).setc (Nat.le_refl _) hlow _⟩
end Go.Proofs.Ytkifapcegiajiaa
