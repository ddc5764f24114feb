/- The walk of FnExactFewestSearchers: it returns true. Conditions: its arguments read as lists.  -/
import Derived.Test.YtnkdafdafgjicaaFewestS
import Derived.Test.YtnkdafdafgjicaaFewestJ
import Derived.Test.YtnkdafdafgjicaaHelpH
import Derived.Test.YtnkdafdafgjicaaHer
namespace Go.Proofs.Ytnkdafdafgjicaa
open Go.RowKit
set_option linter.unusedVariables false
namespace fnExactFewestSearchers
set_option maxHeartbeats 3200000 in
set_option maxRecDepth 100000 in
theorem walk (w : World) (q0 : Int) (hq0 : i64r q0) (A0 : Option Addr) (n0 c0 : Nat) (l0 : List T2) (hr0 : Row w A0 (l0.flatMap T2.v)) (hl0 : l0.length = n0) (hn0 : n0 ≤ maxLen) (hok0 : ∀ x ∈ l0, x.ok) : Gives Try.prog 7 #[.agg #[.int .i64 q0, .slice A0 n0 c0]] w (.bool true) := by
  unfold maxLen at hn0
  by_cases hbig0 : (n0 : Int) ≤ 1048576
  · (unfold Gives; go_enter Try.func7, Try.ntmps7)
    go_wp2_with fail
    refine (szHouse_ok q0 A0 n0 c0 (1048576) _ (by omega) (by omega)).mono ?_; rintro _ w1 ⟨rfl, e1⟩
    have E1 := hid e1
    clear e1
    have hb0 : ¬ ((((1048576 : Int) - n0) : Int) < 0) := by omega
    obtain ⟨xw1, hxw1⟩ := E1.out.ex; subst hxw1
    go_wp2_with fail
    refine (toHouse_any q0 A0 n0 c0 l0 _ (hr0.ext (Ext.trans (by repeat (first | exact Ext.refl _ | refine Ext.alloc ?_ _ | assumption | refine Ext.over ?_ _ | refine Ext.drew ?_ | refine Ext.drewN ?_ _)) E1.out)) hl0 (by omega)).mono ?_; rintro _ w2 ⟨S0X, S0Xc, rfl, o2, e2⟩
    have E2 := hid (E1.out.trans e2)
    have S0X_2 := hid o2
    clear E1 e2 o2
    go_wp2_with fail
    refine (sFewest_any q0 S0X n0 S0Xc l0 w2 (Row.of_own S0X_2.out) hl0 (by omega)).mono ?_; rintro _ w3 ⟨rfl, e3⟩
    have E3 := hid (E2.out.trans e3)
    have S0X_3 := hid (own_ext S0X_2.out e3)
    clear E2 S0X_2 e3
    clear S0X_3
    obtain ⟨xw3, hxw3⟩ := E3.out.ex; subst hxw3
    go_wp2_with fail
    refine (toHouse_any q0 A0 n0 c0 l0 _ (hr0.ext (Ext.trans (by repeat (first | exact Ext.refl _ | refine Ext.alloc ?_ _ | assumption | refine Ext.over ?_ _ | refine Ext.drew ?_ | refine Ext.drewN ?_ _)) E3.out)) hl0 (by omega)).mono ?_; rintro _ w4 ⟨I0X, I0Xc, rfl, o4, e4⟩
    have E4 := hid (E3.out.trans e4)
    have I0X_4 := hid o4
    clear E3 e4 o4
    go_wp2_with fail
    obtain ⟨w5, hw5⟩ : ∃ w5, w5 = World.alloc w4 (.cells #[.int .i64 q0, .slice I0X n0 I0Xc] 30) := ⟨_, rfl⟩
    rw [← hw5]
    have e5 : Ext w4 w5 := by rw [hw5]; repeat (first | exact Ext.refl _ | refine Ext.alloc ?_ _ | assumption | refine Ext.over ?_ _ | refine Ext.drew ?_ | refine Ext.drewN ?_ _)
    have bx0p := (show w5.cell? ⟨w4.heap.size, 0, none⟩ = some (.int .i64 q0) by rw [hw5]; go_simp)
    have bx0q := (show w5.cell? ⟨w4.heap.size, 1, none⟩ = some (.slice I0X n0 I0Xc) by rw [hw5]; go_simp)
    clear hw5
    have E5 := hid (E4.out.trans e5)
    have I0X_5 := hid (own_ext I0X_4.out e5)
    clear E4 I0X_4 e5
    refine (iFewest_any q0 I0X n0 I0Xc l0 w5 (Row.of_own I0X_5.out) hl0 (by omega)).mono ?_; rintro _ w6 ⟨rfl, e6⟩
    have E6 := hid (E5.out.trans e6)
    have I0X_6 := hid (own_ext I0X_5.out e6)
    have bx0p_6 := old_cell e6 bx0p
    clear bx0p
    have bx0q_6 := old_cell e6 bx0q
    clear bx0q
    clear E5 I0X_5 e6
    obtain ⟨xw6, hxw6⟩ := E6.out.ex; subst hxw6
    go_wp2_with fail
    refine wp_region_her [true, true, false, false, false] (by kernel_rfl) (by kernel_rfl) ?_
    simp only [selB, notB, List.map_cons, List.map_nil, Bool.not_true, Bool.not_false]
    repeat (refine wpH_step (fun K hK => ?_); go_simp; refine hK _ ?_; clear hK K)
    refine wpH_nil ?_
    refine wpT_step (fun w7 hw7 K hK => ?_)
    have e7 := later_ext hw7; clear hw7
    have E7 := hid (E6.out.trans e7)
    have I0X_7 := hid (own_ext I0X_6.out e7)
    have bx0p_7 := old_cell e7 bx0p_6
    clear bx0p_6
    have bx0q_7 := old_cell e7 bx0q_6
    clear bx0q_6
    clear E6 I0X_6 e7
    go_simp
    refine (toHouse_any q0 A0 n0 c0 l0 w7 (hr0.ext (Ext.trans (by repeat (first | exact Ext.refl _ | refine Ext.alloc ?_ _ | assumption | refine Ext.over ?_ _ | refine Ext.drew ?_ | refine Ext.drewN ?_ _)) E7.out)) hl0 (by omega)).mono ?_; rintro _ w8 ⟨Q0X, Q0Xc, rfl, o8, e8⟩
    refine ⟨_, rfl, hK _ _ e8.ex ?_⟩; clear hK K
    have E8 := hid (E7.out.trans e8)
    have I0X_8 := hid (own_ext I0X_7.out e8)
    have Q0X_8 := hid o8
    have bx0p_8 := old_cell e8 bx0p_7
    clear bx0p_7
    have bx0q_8 := old_cell e8 bx0q_7
    clear bx0q_7
    clear E7 I0X_7 e8 o8
    refine wpT_step (fun w9 hw9 K hK => ?_)
    have e9 := later_ext hw9; clear hw9
    have E9 := hid (E8.out.trans e9)
    have I0X_9 := hid (own_ext I0X_8.out e9)
    have Q0X_9 := hid (own_ext Q0X_8.out e9)
    have bx0p_9 := old_cell e9 bx0p_8
    clear bx0p_8
    have bx0q_9 := old_cell e9 bx0q_8
    clear bx0q_8
    clear E8 I0X_8 Q0X_8 e9
    go_simp
    refine (eqHouse_same q0 I0X Q0X n0 I0Xc Q0Xc l0 w9 (Row.of_own I0X_9.out) (Row.of_own Q0X_9.out) hl0 (by omega)).mono ?_; rintro _ w10 ⟨rfl, e10⟩
    refine ⟨_, rfl, hK _ _ e10.ex ?_⟩; clear hK K
    have E10 := hid (E9.out.trans e10)
    have I0X_10 := hid (own_ext I0X_9.out e10)
    have Q0X_10 := hid (own_ext Q0X_9.out e10)
    have bx0p_10 := old_cell e10 bx0p_9
    clear bx0p_9
    have bx0q_10 := old_cell e10 bx0q_9
    clear bx0q_9
    clear E9 I0X_9 Q0X_9 e10
    refine wpT_step (fun w11 hw11 K hK => ?_)
    have e11 := later_ext hw11; clear hw11
    have E11 := hid (E10.out.trans e11)
    have I0X_11 := hid (own_ext I0X_10.out e11)
    have Q0X_11 := hid (own_ext Q0X_10.out e11)
    have bx0p_11 := old_cell e11 bx0p_10
    clear bx0p_10
    have bx0q_11 := old_cell e11 bx0q_10
    clear bx0q_10
    clear E10 I0X_10 Q0X_10 e11
    go_simp; refine hK _ _ (Ext.ex (Ext.refl w11)) ?_; clear hK K
    refine wpT_nil (fun w12 hw12 => ?_)
    have e12 := later_ext hw12; clear hw12
    have E12 := hid (E11.out.trans e12)
    have I0X_12 := hid (own_ext I0X_11.out e12)
    have Q0X_12 := hid (own_ext Q0X_11.out e12)
    have bx0p_12 := old_cell e12 bx0p_11
    clear bx0p_11
    have bx0q_12 := old_cell e12 bx0q_11
    clear bx0q_11
    clear E11 I0X_11 Q0X_11 e12
    clear Q0X_12
    clear I0X_12
    go_wp2_with fail
    go_ret
    exact ⟨rfl, Ext.trans (by repeat (first | exact Ext.refl _ | refine Ext.alloc ?_ _ | assumption | refine Ext.over ?_ _ | refine Ext.drew ?_ | refine Ext.drewN ?_ _)) E12.out⟩
  · (unfold Gives; go_enter Try.func7, Try.ntmps7)
    go_wp2_with fail
    refine (szHouse_no q0 A0 n0 c0 (1048576) _ (by omega) (by omega) (by omega) (by omega)).mono ?_; rintro _ w1 ⟨rfl, e1⟩
    have E1 := hid e1
    clear e1
    go_wp2_with fail
    go_ret
    exact ⟨rfl, Ext.trans (by repeat (first | exact Ext.refl _ | refine Ext.alloc ?_ _ | assumption | refine Ext.over ?_ _ | refine Ext.drew ?_ | refine Ext.drewN ?_ _)) E1.out⟩

end fnExactFewestSearchers
end Go.Proofs.Ytnkdafdafgjicaa
