/-
  General lemmas on worlds that only grow, used by the walks of this claim: 'w.over x' is the world x if it extends w, otherwise w; a statement whose order is open and whose calls only make new memory is walked once. No condition.
-/
import Derived.WalkKit
import Derived.Deep.Draws
import Derived.Deep.QuietTactic
import Derived.BigQuiet
namespace Go.Proofs.Ytkifapcegiajiaa
open Go.RowKit

/-- A fact put aside: the walk does not look into it. -/
theorem hid {p : Prop} (h : p) : Hid p := h

/-! ### Worlds that extend a world -/
open Classical in
noncomputable def ovr (w x : World) : World := if Below w.heap.size w x then x else w
noncomputable def ovrN (w x : World) : Nat := (ovr w x).heap.size - w.heap.size

theorem ovr_below (w x : World) : Below w.heap.size w (ovr w x) := by
  unfold ovr; split
  · assumption
  · exact Below.refl _ _
theorem ovr_of {w x : World} (h : Below w.heap.size w x) : ovr w x = x := by unfold ovr; rw [if_pos h]
@[go_sem] theorem ovr_size (w x : World) : (ovr w x).heap.size = w.heap.size + ovrN w x := by
  have := (ovr_below w x).size; unfold ovrN; omega
theorem lt_of_some {w : World} {a : Addr} (h : (w.cell? a).isSome = true) : a.block < w.heap.size := by
  obtain ⟨u, hu⟩ := Option.isSome_iff_exists.1 h
  exact World.block_lt_of_cell? w a hu
noncomputable def ovrCell (w x : World) (a : Addr) : Option Value := (ovr w x).cell? a
noncomputable def ovrFrozen (w x : World) (a : Addr) : Bool := (ovr w x).frozen? a
@[go_sem] theorem ovr_cell (w x : World) (a : Addr) : (ovr w x).cell? a = (w.cell? a).or (ovrCell w x a) := by
  cases h : w.cell? a with
  | none => rfl
  | some v => exact ((ovr_below w x).cell (World.block_lt_of_cell? w a h)).trans h
@[go_sem] theorem ovr_frozen (w x : World) (a : Addr) : (ovr w x).frozen? a = if (w.cell? a).isSome = true then w.frozen? a else ovrFrozen w x a := by
  split
  · rename_i h; exact (ovr_below w x).frozen (lt_of_some h)
  · rfl
@[go_sem] theorem alloc_cell (w : World) (a : Addr) (o : Obj) (h : (w.cell? a).isSome = true) : (w.alloc o).cell? a = w.cell? a := World.cell?_alloc_lt _ _ _ (lt_of_some h)
@[go_sem] theorem alloc_frozen (w : World) (a : Addr) (o : Obj) (h : (w.cell? a).isSome = true) : (w.alloc o).frozen? a = w.frozen? a := World.frozen?_alloc_old _ _ _ (Nat.ne_of_lt (lt_of_some h))
/-- A store goes on into the world that was extended. -/
noncomputable def stepSet (w x : World) (a : Addr) (v : Value) : World := (ovr w x).setCell a v
@[go_sem] theorem ovr_setCell (w x : World) (a : Addr) (v : Value) : (ovr w x).setCell a v = ovr (w.setCell a v) (stepSet w x a v) := by
  have hb := ovr_below w x
  refine (ovr_of (?_ : Below (w.setCell a v).heap.size (w.setCell a v) ((ovr w x).setCell a v))).symm
  refine ⟨hb.os, hb.tape, hb.output, by simpa [World.setCell] using hb.size, fun k hk => ?_⟩
  have hk' : k < w.heap.size := by simpa [World.setCell] using hk
  have := hb.block k hk'
  simp only [World.setCell, Array.getElem?_modify, this]
@[go_sem] theorem alloc_setCell (w : World) (a : Addr) (o : Obj) (v : Value) (h : (w.cell? a).isSome = true) : (w.alloc o).setCell a v = (w.setCell a v).alloc o := by
  have hn := lt_of_some h
  unfold World.setCell World.alloc
  congr 1
  apply Array.ext_getElem?
  intro k
  simp only [Array.getElem?_modify, Array.getElem?_push, Array.size_modify]
  by_cases hk : k = w.heap.size
  · subst hk
    simp [Nat.ne_of_lt hn]
  · simp [hk]

/-- Everything below the old heap is as it was. -/
def Ext (a w : World) : Prop := Below a.heap.size a w
theorem Ext.refl (w : World) : Ext w w := Below.refl _ _
theorem Ext.trans {a b c : World} (h : Ext a b) (k : Ext b c) : Ext a c := Below.trans h (Below.mono k h.size)
theorem Ext.alloc {a w : World} (h : Ext a w) (o : Obj) : Ext a (w.alloc o) := Below.alloc h h.size o
theorem Ext.drew {a w : World} (h : Ext a w) : Ext a w.drew := Below.drew h
theorem Ext.drewN {a w : World} (h : Ext a w) (n : Nat) : Ext a (w.drewN n) := ⟨h.os, h.tape, h.output, h.size, h.block⟩
theorem Ext.over {a w : World} (h : Ext a w) (x : World) : Ext a (ovr w x) := h.trans (ovr_below w x)
theorem Ext.setCell {a w : World} (h : Ext a w) {p : Addr} (hp : a.heap.size ≤ p.block) (u : Value) : Ext a (w.setCell p u) := Below.setCell h hp u
theorem Ext.ex {w w' : World} (h : Ext w w') : ∃ x, w' = ovr w x := ⟨w', (ovr_of h).symm⟩

/-- A function that returns 'v' and only makes new memory. -/
def Gives (P : Program) (f : FuncId) (args : Array Value) (w : World) (v : Value) : Prop := Calls P f args w fun e w' => e = .returned v ∧ Ext w w'
theorem Gives.over {P : Program} {f : FuncId} {args : Array Value} {w : World} {v : Value} (h : Gives P f args w v) :
    Calls P f args w fun e w' => e = .returned v ∧ ∃ x, w' = ovr w x := h.mono fun _ _ ⟨he, hw⟩ => ⟨he, hw.ex⟩
/-- At a call inside a statement whose order is open. -/
theorem Gives.calm {P : Program} {f : FuncId} {args : Array Value} {w x : World} {v : Value} (h : Gives P f args (ovr w x) v) :
    Calls P f args (ovr w x) fun e w' => e = .returned v ∧ ∃ y, w' = ovr w y :=
  h.mono fun _ _ ⟨he, hw⟩ => ⟨he, (Ext.trans (ovr_below w x) hw).ex⟩

/-- A statement whose order is open, whose operations read old memory, compute, or call functions that only make new memory: one walk. -/
theorem wp_region_calm {P : Program} {id : Nat} {Q : Exit → Act → World → Prop} {a : Act} {w : World} {l : List Oper} (hm : P.follows .mixedOrders = true) (hB : Region.lexB .any l.toArray = true)
    (h : wpQuiet P l.toArray (fun w' => ∃ x, w' = ovr w x) (fun a' => ∀ w', (∃ x, w' = ovr w x) → Q .normal a' w') l a) : (Code.region id l.toArray true).wp P Q a w :=
  wp_region_quiet (C := fun w' => ∃ x, w' = ovr w x) hm hB ⟨w.drew, (ovr_of (Below.drew (Below.refl _ _))).symm⟩ (by simpa using h)
end Go.Proofs.Ytkifapcegiajiaa
