/- Walks: FewestSearchers of the reference. Conditions: sizes. -/
import Derived.Test.YtnkdafdafgjicaaSets
import Derived.Test.YtnkdafdafgjicaaFewestJ
namespace Go.Proofs.Ytnkdafdafgjicaa
open Go.RowKit
set_option linter.unusedVariables false

set_option maxRecDepth 100000 in
set_option maxHeartbeats 1600000 in
theorem sFewest_any (h : Int) (A : Option Addr) (n c : Nat) (l : List T2) (w : World) (hl : Row w A (l.flatMap T2.v)) (hn : l.length = n) (hx : n ≤ 1048577) :
    Gives Try.prog 25 #[.agg #[.int .i64 h, .slice A n c]] w (.int .i64 (fewest h l)) := by
  subst hn
  cases hk : houseOk h l
  · have HB := hid (fewest_no hk)
    (unfold Gives; go_enter Try.func25, Try.ntmps25)
    go_wp2_with (go_at_call 38; refine (gives_b hk (sHouseOk_any _ _ _ _ l _ (hl.ext (by repeat (first | exact Ext.refl _ | refine Ext.alloc ?_ _ | assumption | refine Ext.over ?_ _ | refine Ext.drew ?_ | refine Ext.drewN ?_ _))) rfl hx)).over.mono ?_; rintro e w' ⟨rfl, xw, rfl⟩)
    go_ret
    exact ⟨by rw [HB.out]; rfl, by repeat (first | exact Ext.refl _ | refine Ext.alloc ?_ _ | assumption | refine Ext.over ?_ _ | refine Ext.drew ?_ | refine Ext.drewN ?_ _)⟩
  have HB := hid (fewest_yes hk)
  obtain ⟨hd, h1, h7, h12⟩ := houseOk_bounds hk
  clear hd
  obtain ⟨h, rfl⟩ : ∃ k : Nat, h = k := ⟨h.toNat, by omega⟩
  have hp : 0 < 2 ^ h := Nat.pow_pos (by decide)
  obtain ⟨N, hN⟩ : ∃ N, N = 2 ^ h := ⟨_, rfl⟩
  rw [← hN] at hp
  have HN := hid hN
  clear hN
  (unfold Gives; go_enter Try.func25, Try.ntmps25)
  go_wp2_with (go_at_call 38; refine (gives_b hk (sHouseOk_any _ _ _ _ l _ (hl.ext (by repeat (first | exact Ext.refl _ | refine Ext.alloc ?_ _ | assumption | refine Ext.over ?_ _ | refine Ext.drew ?_ | refine Ext.drewN ?_ _))) rfl hx)).over.mono ?_; rintro e w' ⟨rfl, xw, rfl⟩)
  refine (l24Best_any h A l.length c l _ (hl.ext (by repeat (first | exact Ext.refl _ | refine Ext.alloc ?_ _ | assumption | refine Ext.over ?_ _ | refine Ext.drew ?_ | refine Ext.drewN ?_ _))) rfl h12 (by omega) (by omega)).mono ?_
  rintro _ w2 ⟨g, v, cs, rfl, ho, ht, he⟩
  have HV := hid (show fewest h l = v 0 by
    have h1 := (bst_set (l := l) (h := h) (by omega) ht.rec h [] ⟨List.nodup_nil, by simp⟩ (by simp))
    rw [setN_nil] at h1
    have hz : forTo l h (ci []) ([] : List Nat).length = 0 := rfl
    rw [hz] at h1
    rw [HB.out, Int.toNat_natCast, h1.1]
    omega)
  rw [← HN.out] at ho ⊢
  have c0 : w2.cell? ⟨g, 0, none⟩ = some (.int .i64 (v 0)) := by rw [ho.cellAt 0 (by omega)]; exact ht.1 0 (by omega) (by rw [← HN.out]; exact hp)
  have E2 := hid (Ext.trans (show Ext w _ by repeat (first | exact Ext.refl _ | refine Ext.alloc ?_ _ | assumption | refine Ext.over ?_ _ | refine Ext.drew ?_ | refine Ext.drewN ?_ _)) he)
  clear ho he ht
  go_wp2_with fail
  go_ret
  exact ⟨by rw [HV.out]; rfl, E2.out⟩
end Go.Proofs.Ytnkdafdafgjicaa
