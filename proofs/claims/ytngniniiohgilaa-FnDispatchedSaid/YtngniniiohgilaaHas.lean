/- Walks: halls of a house. Conditions: sizes. -/
import Derived.Test.YtngniniiohgilaaHok
namespace Go.Proofs.Ytngniniiohgilaa
open Go.RowKit
set_option linter.unusedVariables false

theorem houseOk_bounds {h : Int} {l : List T2} (g : houseOk h l = true) : doorsOk h l = true ∧ 1 ≤ h ∧ h ≤ 7 ∧ l.length ≤ 12 := by
  unfold houseOk at g
  exact form_bounds (Bool.and_eq_true_iff.1 g).1
theorem isHall_any (h : Int) (A : Option Addr) (n c : Nat) (k : Int) (w : World) (h1 : 1 ≤ h) (h7 : h ≤ 7) :
    Gives Try.prog 42 #[.agg #[.int .i64 h, .slice A n c], .int .i64 k] w (.bool (btw k 0 (h - 1))) := by
  (unfold Gives; go_enter Try.func42, Try.ntmps42)
  go_wp2_with (go_at_call 51; refine (between_any _ _ _ _).over.mono ?_; rintro e w' ⟨rfl, xw, rfl⟩)
  go_ret
  exact ⟨rfl, by repeat (first | exact Ext.refl _ | refine Ext.alloc ?_ _ | assumption | refine Ext.over ?_ _ | refine Ext.drew ?_ | refine Ext.drewN ?_ _)⟩
def hasHall (h : Int) (l : List T2) (k : Int) : Bool := houseOk h l && btw k 0 (h - 1)
theorem l23Has_any (h : Int) (A : Option Addr) (n c : Nat) (l : List T2) (k : Int) (w : World) (hl : Row w A (l.flatMap T2.v)) (hn : l.length = n) (hx : n ≤ 1048577) :
    Gives Try.prog 54 #[.agg #[.int .i64 h, .slice A n c], .int .i64 k] w (.bool (hasHall h l k)) := by
  cases hk : houseOk h l
  · have HB := hid (show hasHall h l k = false by unfold hasHall; rw [hk]; rfl)
    (unfold Gives; go_enter Try.func54, Try.ntmps54)
    go_wp2_with (go_at_call 64; refine (gives_b hk (sHouseOk_any _ _ _ _ l _ (hl.ext (by repeat (first | exact Ext.refl _ | refine Ext.alloc ?_ _ | assumption | refine Ext.over ?_ _ | refine Ext.drew ?_ | refine Ext.drewN ?_ _))) hn hx)).over.mono ?_; rintro e w' ⟨rfl, xw, rfl⟩)
    go_ret
    exact ⟨by rw [HB.out]; rfl, by repeat (first | exact Ext.refl _ | refine Ext.alloc ?_ _ | assumption | refine Ext.over ?_ _ | refine Ext.drew ?_ | refine Ext.drewN ?_ _)⟩
  · obtain ⟨_, h1, h7, _⟩ := houseOk_bounds hk
    have HB := hid (show hasHall h l k = btw k 0 (h - 1) by unfold hasHall; rw [hk]; rfl)
    (unfold Gives; go_enter Try.func54, Try.ntmps54)
    go_wp2_with (first | (go_at_call 64; refine (gives_b hk (sHouseOk_any _ _ _ _ l _ (hl.ext (by repeat (first | exact Ext.refl _ | refine Ext.alloc ?_ _ | assumption | refine Ext.over ?_ _ | refine Ext.drew ?_ | refine Ext.drewN ?_ _))) hn hx)).over.mono ?_; rintro e w' ⟨rfl, xw, rfl⟩) | (go_at_call 79; refine (l01In_any _ _ _ _).over.mono ?_; rintro e w' ⟨rfl, xw, rfl⟩))
    go_ret
    exact ⟨by rw [HB.out]; rfl, by repeat (first | exact Ext.refl _ | refine Ext.alloc ?_ _ | assumption | refine Ext.over ?_ _ | refine Ext.drew ?_ | refine Ext.drewN ?_ _)⟩
theorem depthD {l : List T2} {h a : Nat} (b : Nat) (ha : a < h) : dist h (adjD l) a b ≤ h := by
  cases hs : seenIn (tree h (adjD l) a) b
  · have := distOf_none hs; unfold dist; omega
  · obtain ⟨x, hx, he⟩ := seenIn_iff.1 hs
    have h1 := distOf_mem (bfs_inv (adj := adjD l) ha h).nodup hx
    have h2 := depth_lt (adj := adjD l) ha hx
    unfold dist
    rw [← he]
    have h3 : distOf (tree h (adjD l) a) x.v = x.d := h1
    omega
theorem hasHall_iff {h : Int} {l : List T2} {k : Int} : hasHall h l k = true ↔ houseOk h l = true ∧ 0 ≤ k ∧ k ≤ h - 1 := by unfold hasHall; rw [Bool.and_eq_true, btw_iff]
theorem gives_v {P : Program} {f : FuncId} {args : Array Value} {w : World} {p b : Int} (h : p = b) (g : Gives P f args w (.int .i64 p)) : Gives P f args w (.int .i64 b) := h ▸ g
end Go.Proofs.Ytngniniiohgilaa
