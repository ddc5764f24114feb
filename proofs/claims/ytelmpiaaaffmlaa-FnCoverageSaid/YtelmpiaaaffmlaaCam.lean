/- Walks: fields of cameras, turned cameras. No condition. -/
import Derived.Test.YtelmpiaaaffmlaaOn
import Derived.Test.YtelmpiaaaffmlaaHer2
namespace Go.Proofs.Ytelmpiaaaffmlaa
open Go.RowKit
set_option linter.unusedVariables false

def inFR (x : T7) (px py : Int) : Bool := decide (0 ≤ turnW x.a x.b x.c x.d px py)
def inFL (x : T7) (px py : Int) : Bool := decide (0 ≤ turnW x.a x.b px py x.e x.f)
def inFS (x : T7) (px py : Int) : Bool := decide (squareW x.a x.b px py ≤ wrap64 (x.g * x.g))
def inFc (x : T7) (px py : Int) : Bool := inFR x px py && (inFL x px py && inFS x px py)
def inFld (x : T7) (px py : Int) : Bool := camOk x && (pok px py && inFc x px py)
theorem inField_any (x : T7) (px py : Int) (w : World) : Gives Try.prog 33 #[camV x, .agg #[.int .i64 px, .int .i64 py]] w (.bool (inFc x px py)) := by
  unfold camV
  cases h1 : decide (0 ≤ turnW x.a x.b x.c x.d px py)
  · have HC := hid (show inFc x px py = false by unfold inFc inFR; rw [h1]; rfl)
    (unfold Gives; go_enter Try.func33, Try.ntmps33)
    go_wp2_with fail
    (refine wp_region_calm (by kernel_rfl) (by kernel_rfl) ?_; (repeat (go_big_quiet_step (first | (go_at_call 36; exact (iturn_any _ _ _ _ _ _ _).calm) | (go_at_call 52; exact (square_any _ _ _ _ _).calm)))); refine wpQuiet_nil ?_; rintro w1 ⟨x1, rfl⟩)
    go_wp2_with fail
    go_ret
    refine ⟨by rw [HC.out]; rfl, ?_⟩
    repeat (first | exact Ext.refl _ | refine Ext.alloc ?_ _ | assumption | refine Ext.over ?_ _ | refine Ext.drew ?_ | refine Ext.drewN ?_ _)
  cases h2 : decide (0 ≤ turnW x.a x.b px py x.e x.f)
  · have HC := hid (show inFc x px py = false by unfold inFc inFL; rw [h2]; simp)
    (unfold Gives; go_enter Try.func33, Try.ntmps33)
    go_wp2_with fail
    (refine wp_region_calm (by kernel_rfl) (by kernel_rfl) ?_; (repeat (go_big_quiet_step (first | (go_at_call 36; exact (iturn_any _ _ _ _ _ _ _).calm) | (go_at_call 52; exact (square_any _ _ _ _ _).calm)))); refine wpQuiet_nil ?_; rintro w1 ⟨x1, rfl⟩)
    go_wp2_with fail
    go_ret
    refine ⟨by rw [HC.out]; rfl, ?_⟩
    repeat (first | exact Ext.refl _ | refine Ext.alloc ?_ _ | assumption | refine Ext.over ?_ _ | refine Ext.drew ?_ | refine Ext.drewN ?_ _)
  · have HC := hid (show inFc x px py = decide (squareW x.a x.b px py ≤ wrap64 (x.g * x.g)) by unfold inFc inFR inFL inFS; rw [h1, h2]; rfl)
    (unfold Gives; go_enter Try.func33, Try.ntmps33)
    go_wp2_with fail
    (refine wp_region_calm (by kernel_rfl) (by kernel_rfl) ?_; (repeat (go_big_quiet_step (first | (go_at_call 36; exact (iturn_any _ _ _ _ _ _ _).calm) | (go_at_call 52; exact (square_any _ _ _ _ _).calm)))); refine wpQuiet_nil ?_; rintro w1 ⟨x1, rfl⟩)
    go_wp2_with fail
    go_ret
    refine ⟨by rw [HC.out]; rfl, ?_⟩
    repeat (first | exact Ext.refl _ | refine Ext.alloc ?_ _ | assumption | refine Ext.over ?_ _ | refine Ext.drew ?_ | refine Ext.drewN ?_ _)
theorem iInField_any (x : T7) (px py : Int) (w : World) : Gives Try.prog 11 #[camV x, .agg #[.int .i64 px, .int .i64 py]] w (.bool (inFld x px py)) := by
  cases h1 : camOk x
  · have HC := hid (show inFld x px py = false by unfold inFld; rw [h1]; rfl)
    unfold camV
    (unfold Gives; go_enter Try.func11, Try.ntmps11)
    go_wp2_with (go_at_call 13; refine (iCameraOk_any x _).over.mono ?_; rintro e w' ⟨rfl, xw, rfl⟩)
    go_ret
    refine ⟨by rw [HC.out]; rfl, ?_⟩
    repeat (first | exact Ext.refl _ | refine Ext.alloc ?_ _ | assumption | refine Ext.over ?_ _ | refine Ext.drew ?_ | refine Ext.drewN ?_ _)
  cases h2 : pok px py
  · have HC := hid (show inFld x px py = false by unfold inFld; rw [h2]; simp)
    unfold camV
    (unfold Gives; go_enter Try.func11, Try.ntmps11)
    go_wp2_with (first | (go_at_call 13; refine (iCameraOk_any x _).over.mono ?_; rintro e w' ⟨rfl, xw, rfl⟩) | (go_at_call 12; refine (iPointOk_any _ _ _).over.mono ?_; rintro e w' ⟨rfl, xw, rfl⟩))
    go_ret
    refine ⟨by rw [HC.out]; rfl, ?_⟩
    repeat (first | exact Ext.refl _ | refine Ext.alloc ?_ _ | assumption | refine Ext.over ?_ _ | refine Ext.drew ?_ | refine Ext.drewN ?_ _)
  · have HC := hid (show inFld x px py = inFc x px py by unfold inFld; rw [h1, h2]; rfl)
    unfold camV
    (unfold Gives; go_enter Try.func11, Try.ntmps11)
    go_wp2_with (first | (go_at_call 13; refine (iCameraOk_any x _).over.mono ?_; rintro e w' ⟨rfl, xw, rfl⟩) | (go_at_call 12; refine (iPointOk_any _ _ _).over.mono ?_; rintro e w' ⟨rfl, xw, rfl⟩) | (go_at_call 33; refine (inField_any x _ _ _).over.mono ?_; rintro e w' ⟨rfl, xw, rfl⟩))
    go_ret
    refine ⟨by rw [HC.out]; rfl, ?_⟩
    repeat (first | exact Ext.refl _ | refine Ext.alloc ?_ _ | assumption | refine Ext.over ?_ _ | refine Ext.drew ?_ | refine Ext.drewN ?_ _)
theorem camOk_at {x : T7} (h : camOk x = true) : pok x.a x.b = true := by unfold camOk at h; simp only [Bool.and_eq_true] at h; exact h.1.1.1
/-- Seven cells of one block. -/
def Seven (w : World) (b : Nat) (x : T7) : Prop := w.cell? ⟨b, 0, none⟩ = some (.int .i64 x.a) ∧ w.cell? ⟨b, 1, none⟩ = some (.int .i64 x.b) ∧ w.cell? ⟨b, 2, none⟩ = some (.int .i64 x.c) ∧ w.cell? ⟨b, 3, none⟩ = some (.int .i64 x.d) ∧ w.cell? ⟨b, 4, none⟩ = some (.int .i64 x.e) ∧ w.cell? ⟨b, 5, none⟩ = some (.int .i64 x.f) ∧ w.cell? ⟨b, 6, none⟩ = some (.int .i64 x.g) ∧
  w.frozen? ⟨b, 0, none⟩ = false ∧ w.frozen? ⟨b, 1, none⟩ = false ∧ w.frozen? ⟨b, 2, none⟩ = false ∧ w.frozen? ⟨b, 3, none⟩ = false ∧ w.frozen? ⟨b, 4, none⟩ = false ∧ w.frozen? ⟨b, 5, none⟩ = false ∧ w.frozen? ⟨b, 6, none⟩ = false
theorem Seven.ext {w w' : World} {b : Nat} {x : T7} (h : Seven w b x) (e : Ext w w') : Seven w' b x := by
  obtain ⟨h0, h1, h2, h3, h4, h5, h6, f0, f1, f2, f3, f4, f5, f6⟩ := h
  exact ⟨old_cell e h0, old_cell e h1, old_cell e h2, old_cell e h3, old_cell e h4, old_cell e h5, old_cell e h6, old_froz e h0 f0, old_froz e h1 f1, old_froz e h2 f2, old_froz e h3 f3, old_froz e h4 f4, old_froz e h5 f5, old_froz e h6 f6⟩
theorem Seven.fresh {w1 w2 : World} {x : T7} {t : TypeId} (e : Ext (w1.alloc (.cells #[.int .i64 x.a, .int .i64 x.b, .int .i64 x.c, .int .i64 x.d, .int .i64 x.e, .int .i64 x.f, .int .i64 x.g] t)) w2) : Seven w2 w1.heap.size x :=
  ⟨(fresh_cells e rfl).1, (fresh_cells e rfl).1, (fresh_cells e rfl).1, (fresh_cells e rfl).1, (fresh_cells e rfl).1, (fresh_cells e rfl).1, (fresh_cells e rfl).1,
   (fresh_cells e (j := 0) rfl).2, (fresh_cells e (j := 1) rfl).2, (fresh_cells e (j := 2) rfl).2, (fresh_cells e (j := 3) rfl).2, (fresh_cells e (j := 4) rfl).2, (fresh_cells e (j := 5) rfl).2, (fresh_cells e (j := 6) rfl).2⟩
theorem name_world {P : World → Prop} {X : World} (F : World → Prop) (hF : F X) (h : ∀ W, F W → P W) : P X := h X hF
def zero7 : T7 := ⟨0, 0, 0, 0, 0, 0, 0⟩
end Go.Proofs.Ytelmpiaaaffmlaa
