/- Walks: Sees, both. Conditions: at most 1048577 corners. -/
import Derived.Test.YtelmpiaaaffmlaaSeesS
namespace Go.Proofs.Ytelmpiaaaffmlaa
open Go.RowKit
set_option linter.unusedVariables false

def seeR (L : List T2) (a b : T2) : Bool := (isIn L a && isIn L b) && seesS L a b
theorem allIn_two (L : List T2) (a b : T2) : allIn L [⟨a.a, a.b⟩, ⟨b.a, b.b⟩] = (isIn L a && isIn L b) := by
  rw [isIn_val, isIn_val]
  unfold allIn insI allN pokAt at2 pokT
  simp only [List.length_cons, List.length_nil, List.range, List.range.loop, List.all_cons, List.all_nil, List.getD_cons_zero, List.getD_cons_succ]
  cases roomS L <;> cases pok a.a a.b <;> cases pok b.a b.b <;> simp
set_option maxRecDepth 100000 in
theorem iSees_any (A : Option Addr) (n c : Nat) (L : List T2) (a b : T2) (w : World) (hl : Row w A (L.flatMap T2.v)) (hn : L.length = n) (hx : n ≤ 1048577) : Gives Try.prog 10 #[.agg #[.slice A n c], ptV a, ptV b] w (.bool (seeR L a b)) := by
  have HI := hid (fun w' (h : Row w' A (L.flatMap T2.v)) => sees_any A n c L a b w' h hn)
  unfold ptV at *
  cases h1 : allIn L [⟨a.a, a.b⟩, ⟨b.a, b.b⟩]
  · have HC := hid (show seeR L a b = false by unfold seeR; rw [← allIn_two, h1]; rfl)
    (unfold Gives; go_enter Try.func10, Try.ntmps10)
    go_wp2_with (go_at_call 31; refine (gives_b h1 (allIn_any A n c L _ 2 2 [⟨a.a, a.b⟩, ⟨b.a, b.b⟩] _ (hl.ext (by repeat (first | exact Ext.refl _ | refine Ext.alloc ?_ _ | assumption | refine Ext.over ?_ _ | refine Ext.drew ?_ | refine Ext.drewN ?_ _))) hn hx (two_row _ _ (by simp) _ _ _ _ _) rfl (by omega))).over.mono ?_; rintro e w' ⟨rfl, xw, rfl⟩)
    go_ret
    exact ⟨by rw [HC.out]; rfl, by repeat (first | exact Ext.refl _ | refine Ext.alloc ?_ _ | assumption | refine Ext.over ?_ _ | refine Ext.drew ?_ | refine Ext.drewN ?_ _)⟩
  · have h2 := h1
    rw [allIn_two, Bool.and_eq_true] at h2
    have ha := isIn_room h2.1
    have hb := isIn_room h2.2
    have HC := hid (show seeR L a b = seesS L a b by unfold seeR; rw [h2.1, h2.2]; rfl)
    have HS := hid (fun w' h => HI.out w' h ha.1 ha.2 hb.2)
    clear h2 ha hb
    (unfold Gives; go_enter Try.func10, Try.ntmps10)
    go_wp2_with (first | (go_at_call 31; refine (gives_b h1 (allIn_any A n c L _ 2 2 [⟨a.a, a.b⟩, ⟨b.a, b.b⟩] _ (hl.ext (by repeat (first | exact Ext.refl _ | refine Ext.alloc ?_ _ | assumption | refine Ext.over ?_ _ | refine Ext.drew ?_ | refine Ext.drewN ?_ _))) hn hx (two_row _ _ (by simp) _ _ _ _ _) rfl (by omega))).over.mono ?_; rintro e w' ⟨rfl, xw, rfl⟩) | (go_at_call 32; refine (HS.out _ (hl.ext (by repeat (first | exact Ext.refl _ | refine Ext.alloc ?_ _ | assumption | refine Ext.over ?_ _ | refine Ext.drew ?_ | refine Ext.drewN ?_ _)))).over.mono ?_; rintro e w' ⟨rfl, xw, rfl⟩))
    go_ret
    exact ⟨by rw [HC.out]; rfl, by repeat (first | exact Ext.refl _ | refine Ext.alloc ?_ _ | assumption | refine Ext.over ?_ _ | refine Ext.drew ?_ | refine Ext.drewN ?_ _)⟩
end Go.Proofs.Ytelmpiaaaffmlaa
