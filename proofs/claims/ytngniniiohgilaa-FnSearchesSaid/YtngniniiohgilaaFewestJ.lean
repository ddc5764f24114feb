/- Walks: FewestSearchers of the program. Conditions: sizes. -/
import Derived.Test.YtngniniiohgilaaFewestI
namespace Go.Proofs.Ytngniniiohgilaa
open Go.RowKit
set_option linter.unusedVariables false

def fewest (h : Int) (l : List T2) : Int := if houseOk h l = true then (bst l h.toNat h.toNat []).2 else -1
theorem fewest_no {h : Int} {l : List T2} (g : houseOk h l = false) : fewest h l = -1 := by unfold fewest; rw [g]; simp
theorem fewest_yes {h : Int} {l : List T2} (g : houseOk h l = true) : fewest h l = (bst l h.toNat h.toNat []).2 := by unfold fewest; rw [if_pos g]
set_option maxRecDepth 100000 in
set_option maxHeartbeats 1600000 in
theorem iFewest_any (h : Int) (A : Option Addr) (n c : Nat) (l : List T2) (w : World) (hl : Row w A (l.flatMap T2.v)) (hn : l.length = n) (hx : n ≤ 1048577) :
    Gives Try.prog 17 #[.agg #[.int .i64 h, .slice A n c]] w (.int .i64 (fewest h l)) := by
  subst hn
  cases hk : houseOk h l
  · have HB := hid (fewest_no hk)
    (unfold Gives; go_enter Try.func17, Try.ntmps17)
    go_wp2_with (go_at_call 15; refine (gives_b hk (iHouseOk_any _ _ _ _ l _ (hl.ext (by repeat (first | exact Ext.refl _ | refine Ext.alloc ?_ _ | assumption | refine Ext.over ?_ _ | refine Ext.drew ?_ | refine Ext.drewN ?_ _))) rfl hx)).over.mono ?_; rintro e w' ⟨rfl, xw, rfl⟩)
    go_ret
    exact ⟨by rw [HB.out]; rfl, by repeat (first | exact Ext.refl _ | refine Ext.alloc ?_ _ | assumption | refine Ext.over ?_ _ | refine Ext.drew ?_ | refine Ext.drewN ?_ _)⟩
  have HB := hid (fewest_yes hk)
  obtain ⟨hd, h1, h7, h12⟩ := houseOk_bounds hk
  have HD := hid hd
  clear hd
  obtain ⟨h, rfl⟩ : ∃ k : Nat, h = k := ⟨h.toNat, by omega⟩
  (unfold Gives; go_enter Try.func17, Try.ntmps17)
  go_wp2_with (go_at_call 15; refine (gives_b hk (iHouseOk_any _ _ _ _ l _ (hl.ext (by repeat (first | exact Ext.refl _ | refine Ext.alloc ?_ _ | assumption | refine Ext.over ?_ _ | refine Ext.drew ?_ | refine Ext.drewN ?_ _))) rfl hx)).over.mono ?_; rintro e w' ⟨rfl, xw, rfl⟩)
  refine (best_any h A c l h12 (by omega) (by omega) HD.out h [] none 0 0 _ (hl.ext (by repeat (first | exact Ext.refl _ | refine Ext.alloc ?_ _ | assumption | refine Ext.over ?_ _ | refine Ext.drew ?_ | refine Ext.drewN ?_ _))) (Row.nil _ _) rfl ⟨List.nodup_nil, by simp⟩ (by omega) (fun _ => ⟨rfl, rfl⟩) (by omega)).mono ?_
  rintro _ w2 ⟨g, c', rfl, ho, he⟩
  have E2 := hid (Ext.trans (show Ext w _ by repeat (first | exact Ext.refl _ | refine Ext.alloc ?_ _ | assumption | refine Ext.over ?_ _ | refine Ext.drew ?_ | refine Ext.drewN ?_ _)) he)
  clear ho he
  go_wp2_with fail
  go_ret
  exact ⟨by rw [HB.out, Int.toNat_natCast]; rfl, E2.out⟩
end Go.Proofs.Ytngniniiohgilaa
