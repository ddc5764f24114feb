/- Walks: LeastFilming of the reference, IsRobust of both. Conditions: at most 1048577 corners and cameras. -/
import Derived.Test.YtelmpiaaaffmlaaCountsW
namespace Go.Proofs.Ytelmpiaaaffmlaa
open Go.RowKit
set_option linter.unusedVariables false

theorem rowC_val {L : List T2} {C : List T7} {F : List T2} {j : Nat} (hj : j < F.length) : (rowC L C F C.length 0)[j]? = some ((countR L C (at2 F j) : Nat) : Int) := by
  rw [rowC_at hj, if_neg (by omega)]; rfl
theorem floorR_yes {L : List T2} (h : roomS L = true) : floorR L = floorL L := by unfold floorR; rw [h]; rfl
def robR (L : List T2) (C : List T7) (z : Int) : Bool := decide (0 ≤ z) && decide (z < leastR L C)
theorem leastR_range (L : List T2) (C : List T7) : -1 ≤ leastR L C ∧ leastR L C ≤ 6 := by
  unfold leastR
  split
  · rename_i h
    simp only [Bool.and_eq_true, decide_eq_true_eq] at h
    have := leastN_le L C (floorL L) (floorL L).length
    omega
  · omega
set_option maxRecDepth 100000 in
theorem iRobust_any (A : Option Addr) (n c : Nat) (L : List T2) (B : Option Addr) (m d : Nat) (C : List T7) (z : Int) (w : World) (hl : Row w A (L.flatMap T2.v)) (hn : L.length = n) (hx : n ≤ 1048577) (hr : Row w B (C.flatMap T7.v)) (hm : C.length = m) (hy : m ≤ 1048577) : Gives Try.prog 21 #[.agg #[.slice A n c], .slice B m d, .int .i64 z] w (.bool (robR L C z)) := by
  have HL := hid hl
  have HR := hid hr
  have HG := hid (fun w' (h : Row w' A (L.flatMap T2.v)) (h' : Row w' B (C.flatMap T7.v)) => iLeast_any A n c L B m d C w' h hn hx h' hm hy)
  clear hl hr
  cases h0 : decide (0 ≤ z)
  · have HV := hid (show robR L C z = false by unfold robR; rw [h0]; rfl)
    (unfold Gives; go_enter Try.func21, Try.ntmps21)
    go_wp2_with fail
    go_ret
    exact ⟨by rw [HV.out]; rfl, by repeat (first | exact Ext.refl _ | refine Ext.alloc ?_ _ | assumption | refine Ext.over ?_ _ | refine Ext.drew ?_ | refine Ext.drewN ?_ _)⟩
  · have HV := hid (show robR L C z = decide (z < leastR L C) by unfold robR; rw [h0]; rfl)
    (unfold Gives; go_enter Try.func21, Try.ntmps21)
    go_wp2_with (go_at_call 16; refine (HG.out _ (HL.out.ext (by repeat (first | exact Ext.refl _ | refine Ext.alloc ?_ _ | assumption | refine Ext.over ?_ _ | refine Ext.drew ?_ | refine Ext.drewN ?_ _))) (HR.out.ext (by repeat (first | exact Ext.refl _ | refine Ext.alloc ?_ _ | assumption | refine Ext.over ?_ _ | refine Ext.drew ?_ | refine Ext.drewN ?_ _)))).over.mono ?_; rintro e w' ⟨rfl, xw, rfl⟩)
    go_ret
    exact ⟨by rw [HV.out]; rfl, by repeat (first | exact Ext.refl _ | refine Ext.alloc ?_ _ | assumption | refine Ext.over ?_ _ | refine Ext.drew ?_ | refine Ext.drewN ?_ _)⟩
end Go.Proofs.Ytelmpiaaaffmlaa
