/- The walk of FnExactBestOrder: it returns true. Conditions: its arguments read as lists.  -/
import Derived.Test.YtngniniiohgilaaBestS
import Derived.Test.YtngniniiohgilaaHelpH
import Derived.Test.YtngniniiohgilaaHelpEq
import Derived.Test.YtngniniiohgilaaHelpM
import Derived.Test.YtngniniiohgilaaHelpHM
import Derived.Test.YtngniniiohgilaaHer
namespace Go.Proofs.Ytngniniiohgilaa
open Go.RowKit
set_option linter.unusedVariables false
namespace fnExactBestOrder
set_option maxHeartbeats 3200000 in
set_option maxRecDepth 100000 in
theorem walk (w : World) (q0 : Int) (hq0 : i64r q0) (A0 : Option Addr) (n0 c0 : Nat) (l0 : List T2) (hr0 : Row w A0 (l0.flatMap T2.v)) (hl0 : l0.length = n0) (hn0 : n0 ≤ maxLen) (hok0 : ∀ x ∈ l0, x.ok) : Gives Try.prog 6 #[.agg #[.int .i64 q0, .slice A0 n0 c0]] w (.bool true) := by
  unfold maxLen at hn0
  by_cases hbig0 : (n0 : Int) ≤ 1048576
  · have hlen : (bestOrder q0 l0).length ≤ 8388608 := by have := bestOrder_len q0 l0; omega
    (unfold Gives; go_enter Try.func6, Try.ntmps6)
    go_wp2_with fail
    refine (szHouse_ok q0 A0 n0 c0 (1048576) _ (by omega) (by omega)).mono ?_; rintro _ w1 ⟨rfl, e1⟩
    have E1 := hid e1
    clear e1
    have hb0 : ¬ ((((1048576 : Int) - n0) : Int) < 0) := by omega
    obtain ⟨xw1, hxw1⟩ := E1.out.ex; subst hxw1
    go_wp2_with fail
    refine (toHouse_any q0 A0 n0 c0 l0 _ (hr0.ext (Ext.trans (by repeat (first | exact Ext.refl _ | refine Ext.alloc ?_ _ | assumption | refine Ext.over ?_ _ | refine Ext.drew ?_ | refine Ext.drewN ?_ _)) E1.out)) hl0 (by omega)).mono ?_; rintro _ w2 ⟨S0X, S0Xc, rfl, o2, e2⟩
    have BS0X := hid E1.out.size
    have E2 := hid (E1.out.trans e2)
    have S0X_2 := hid o2
    clear E1 e2 o2
    go_wp2_with fail
    refine (sBest_any q0 S0X n0 S0Xc l0 w2 (Row.of_own S0X_2.out) hl0 (by omega)).mono ?_; rintro _ w3 ⟨WX, mw, WXc, rfl, o3, e3⟩
    have hm := own_len o3
    have NES0XWX := hid (own_ne S0X_2.out o3 (Nat.le_refl _)); have NEWXS0X := hid (own_ne' S0X_2.out o3 (Nat.le_refl _))
    have BWX := hid E2.out.size
    have E3 := hid (E2.out.trans e3)
    have S0X_3 := hid (own_ext S0X_2.out e3)
    have WX_3 := hid o3
    clear E2 S0X_2 e3 o3
    clear S0X_3
    obtain ⟨xw3, hxw3⟩ := E3.out.ex; subst hxw3
    go_wp2_with fail
    refine (toHouse_any q0 A0 n0 c0 l0 _ (hr0.ext (Ext.trans (by repeat (first | exact Ext.refl _ | refine Ext.alloc ?_ _ | assumption | refine Ext.over ?_ _ | refine Ext.drew ?_ | refine Ext.drewN ?_ _)) E3.out)) hl0 (by omega)).mono ?_; rintro _ w4 ⟨I0X, I0Xc, rfl, o4, e4⟩
    have NEWXI0X := hid (own_ne WX_3.out o4 (Nat.le_refl _)); have NEI0XWX := hid (own_ne' WX_3.out o4 (Nat.le_refl _))
    have BI0X := hid E3.out.size
    have E4 := hid (E3.out.trans e4)
    have WX_4 := hid (own_ext WX_3.out e4)
    have I0X_4 := hid o4
    clear E3 WX_3 e4 o4
    go_wp2_with fail
    obtain ⟨w5, hw5⟩ : ∃ w5, w5 = World.alloc w4 (.cells #[.int .i64 q0, .slice I0X n0 I0Xc] 26) := ⟨_, rfl⟩
    rw [← hw5]
    have e5 : Ext w4 w5 := by rw [hw5]; repeat (first | exact Ext.refl _ | refine Ext.alloc ?_ _ | assumption | refine Ext.over ?_ _ | refine Ext.drew ?_ | refine Ext.drewN ?_ _)
    have bx0p := (show w5.cell? ⟨w4.heap.size, 0, none⟩ = some (.int .i64 q0) by rw [hw5]; go_simp)
    have bx0q := (show w5.cell? ⟨w4.heap.size, 1, none⟩ = some (.slice I0X n0 I0Xc) by rw [hw5]; go_simp)
    clear hw5
    have E5 := hid (E4.out.trans e5)
    have WX_5 := hid (own_ext WX_4.out e5)
    have I0X_5 := hid (own_ext I0X_4.out e5)
    clear E4 WX_4 I0X_4 e5
    refine (iBest_any q0 I0X n0 I0Xc l0 w5 (Row.of_own I0X_5.out) hl0 (by omega)).mono ?_; rintro _ w6 ⟨GX, mg, GXc, rfl, o6, e6⟩
    have hm' := own_len o6; obtain rfl : mg = mw := by omega
    have NEWXGX := hid (own_ne WX_5.out o6 (Nat.le_refl _)); have NEGXWX := hid (own_ne' WX_5.out o6 (Nat.le_refl _))
    have NEI0XGX := hid (own_ne I0X_5.out o6 (Nat.le_refl _)); have NEGXI0X := hid (own_ne' I0X_5.out o6 (Nat.le_refl _))
    have BGX := hid E5.out.size
    have E6 := hid (E5.out.trans e6)
    have WX_6 := hid (own_ext WX_5.out e6)
    have I0X_6 := hid (own_ext I0X_5.out e6)
    have GX_6 := hid o6
    have bx0p_6 := old_cell e6 bx0p
    clear bx0p
    have bx0q_6 := old_cell e6 bx0q
    clear bx0q
    clear E5 WX_5 I0X_5 e6 o6
    go_wp2_with fail
    refine (eqIntS_same GX WX mg GXc WXc (bestOrder q0 l0) w6 (Row.of_own GX_6.out) (Row.of_own WX_6.out) hm' (by omega)).mono ?_; rintro _ w7 ⟨rfl, e7⟩
    have E7 := hid (E6.out.trans e7)
    have WX_7 := hid (own_ext WX_6.out e7)
    have I0X_7 := hid (own_ext I0X_6.out e7)
    have GX_7 := hid (own_ext GX_6.out e7)
    have bx0p_7 := old_cell e7 bx0p_6
    clear bx0p_6
    have bx0q_7 := old_cell e7 bx0q_6
    clear bx0q_6
    clear E6 WX_6 I0X_6 GX_6 e7
    obtain ⟨xw7, hxw7⟩ := E7.out.ex; subst hxw7
    go_wp2_with fail
    refine wp_region_her [true, true, false, false, false] (by kernel_rfl) (by kernel_rfl) ?_
    simp only [selB, notB, List.map_cons, List.map_nil, Bool.not_true, Bool.not_false]
    repeat (refine wpH_step (fun K hK => ?_); go_simp; refine hK _ ?_; clear hK K)
    refine wpH_nil ?_
    refine wpT_step (fun w8 hw8 K hK => ?_)
    have e8 := later_ext hw8; clear hw8
    have E8 := hid (E7.out.trans e8)
    have WX_8 := hid (own_ext WX_7.out e8)
    have I0X_8 := hid (own_ext I0X_7.out e8)
    have GX_8 := hid (own_ext GX_7.out e8)
    have bx0p_8 := old_cell e8 bx0p_7
    clear bx0p_7
    have bx0q_8 := old_cell e8 bx0q_7
    clear bx0q_7
    clear E7 WX_7 I0X_7 GX_7 e8
    go_simp
    refine (toHouse_any q0 A0 n0 c0 l0 w8 (hr0.ext (Ext.trans (by repeat (first | exact Ext.refl _ | refine Ext.alloc ?_ _ | assumption | refine Ext.over ?_ _ | refine Ext.drew ?_ | refine Ext.drewN ?_ _)) E8.out)) hl0 (by omega)).mono ?_; rintro _ w9 ⟨Q0X, Q0Xc, rfl, o9, e9⟩
    refine ⟨_, rfl, hK _ _ e9.ex ?_⟩; clear hK K
    have NEWXQ0X := hid (own_ne WX_8.out o9 (Nat.le_refl _)); have NEQ0XWX := hid (own_ne' WX_8.out o9 (Nat.le_refl _))
    have NEI0XQ0X := hid (own_ne I0X_8.out o9 (Nat.le_refl _)); have NEQ0XI0X := hid (own_ne' I0X_8.out o9 (Nat.le_refl _))
    have NEGXQ0X := hid (own_ne GX_8.out o9 (Nat.le_refl _)); have NEQ0XGX := hid (own_ne' GX_8.out o9 (Nat.le_refl _))
    have BQ0X := hid E8.out.size
    have E9 := hid (E8.out.trans e9)
    have WX_9 := hid (own_ext WX_8.out e9)
    have I0X_9 := hid (own_ext I0X_8.out e9)
    have GX_9 := hid (own_ext GX_8.out e9)
    have Q0X_9 := hid o9
    have bx0p_9 := old_cell e9 bx0p_8
    clear bx0p_8
    have bx0q_9 := old_cell e9 bx0q_8
    clear bx0q_8
    clear E8 WX_8 I0X_8 GX_8 e9 o9
    refine wpT_step (fun w10 hw10 K hK => ?_)
    have e10 := later_ext hw10; clear hw10
    have E10 := hid (E9.out.trans e10)
    have WX_10 := hid (own_ext WX_9.out e10)
    have I0X_10 := hid (own_ext I0X_9.out e10)
    have GX_10 := hid (own_ext GX_9.out e10)
    have Q0X_10 := hid (own_ext Q0X_9.out e10)
    have bx0p_10 := old_cell e10 bx0p_9
    clear bx0p_9
    have bx0q_10 := old_cell e10 bx0q_9
    clear bx0q_9
    clear E9 WX_9 I0X_9 GX_9 Q0X_9 e10
    go_simp
    refine (eqHouse_same q0 I0X Q0X n0 I0Xc Q0Xc l0 w10 (Row.of_own I0X_10.out) (Row.of_own Q0X_10.out) hl0 (by omega)).mono ?_; rintro _ w11 ⟨rfl, e11⟩
    refine ⟨_, rfl, hK _ _ e11.ex ?_⟩; clear hK K
    have E11 := hid (E10.out.trans e11)
    have WX_11 := hid (own_ext WX_10.out e11)
    have I0X_11 := hid (own_ext I0X_10.out e11)
    have GX_11 := hid (own_ext GX_10.out e11)
    have Q0X_11 := hid (own_ext Q0X_10.out e11)
    have bx0p_11 := old_cell e11 bx0p_10
    clear bx0p_10
    have bx0q_11 := old_cell e11 bx0q_10
    clear bx0q_10
    clear E10 WX_10 I0X_10 GX_10 Q0X_10 e11
    refine wpT_step (fun w12 hw12 K hK => ?_)
    have e12 := later_ext hw12; clear hw12
    have E12 := hid (E11.out.trans e12)
    have WX_12 := hid (own_ext WX_11.out e12)
    have I0X_12 := hid (own_ext I0X_11.out e12)
    have GX_12 := hid (own_ext GX_11.out e12)
    have Q0X_12 := hid (own_ext Q0X_11.out e12)
    have bx0p_12 := old_cell e12 bx0p_11
    clear bx0p_11
    have bx0q_12 := old_cell e12 bx0q_11
    clear bx0q_11
    clear E11 WX_11 I0X_11 GX_11 Q0X_11 e12
    go_simp; refine hK _ _ (Ext.ex (Ext.refl w12)) ?_; clear hK K
    refine wpT_nil (fun w13 hw13 => ?_)
    have e13 := later_ext hw13; clear hw13
    have E13 := hid (E12.out.trans e13)
    have WX_13 := hid (own_ext WX_12.out e13)
    have I0X_13 := hid (own_ext I0X_12.out e13)
    have GX_13 := hid (own_ext GX_12.out e13)
    have Q0X_13 := hid (own_ext Q0X_12.out e13)
    have bx0p_13 := old_cell e13 bx0p_12
    clear bx0p_12
    have bx0q_13 := old_cell e13 bx0q_12
    clear bx0q_12
    clear E12 WX_12 I0X_12 GX_12 Q0X_12 e13
    clear Q0X_13
    go_wp2_with fail
    try clear bx0p_13
    try clear bx0q_13
    refine (markHouse_any q0 I0X n0 I0Xc _ _ (1) w13 I0X_13.out (by omega) (by omega) (by omega)).mono ?_; rintro _ w14 ⟨rfl, g14, s14, o14⟩
    have E14 := hid (grown_ext E13.out I0X_13.out BI0X.out g14)
    have WX_14 := hid (WX_13.out.kept g14 NEWXI0X.out)
    have I0X_14 := hid o14
    have GX_14 := hid (GX_13.out.kept g14 NEGXI0X.out)
    clear E13 WX_13 I0X_13 GX_13 g14 s14 o14
    clear I0X_14
    have hk : ¬ ((((1 : Int) + 2 * n0) : Int) < 0) := by omega
    go_wp2_with fail
    refine (eqIntS_same GX WX mg GXc WXc (bestOrder q0 l0) w14 (Row.of_own GX_14.out) (Row.of_own WX_14.out) hm' (by omega)).mono ?_; rintro _ w15 ⟨rfl, e15⟩
    have E15 := hid (E14.out.trans e15)
    have WX_15 := hid (own_ext WX_14.out e15)
    have GX_15 := hid (own_ext GX_14.out e15)
    clear E14 WX_14 GX_14 e15
    go_wp2_with fail
    refine (markIntS_any GX mg GXc _ _ 1 w15 GX_15.out (by omega) (by omega) (by omega)).mono ?_; rintro _ w16 ⟨rfl, g16, s16, o16⟩
    have E16 := hid (grown_ext E15.out GX_15.out BGX.out g16)
    have WX_16 := hid (WX_15.out.kept g16 NEWXGX.out)
    have GX_16 := hid o16
    clear E15 WX_15 GX_15 g16 s16 o16
    go_wp2_with fail
    refine (heldIntS_ok GX mg GXc 1 w16 (Row.of_own GX_16.out) (by omega) (by omega) (by omega)).mono ?_; rintro _ w17 ⟨rfl, e17⟩
    have E17 := hid (E16.out.trans e17)
    have WX_17 := hid (own_ext WX_16.out e17)
    have GX_17 := hid (own_ext GX_16.out e17)
    clear E16 WX_16 GX_16 e17
    have hq : ¬ ((1 : Int) + mg < 0) := by omega
    obtain ⟨xw17, hxw17⟩ := E17.out.ex; subst hxw17
    go_wp2_with fail
    refine (toHouse_any q0 A0 n0 c0 l0 _ (hr0.ext (Ext.trans (by repeat (first | exact Ext.refl _ | refine Ext.alloc ?_ _ | assumption | refine Ext.over ?_ _ | refine Ext.drew ?_ | refine Ext.drewN ?_ _)) E17.out)) hl0 (by omega)).mono ?_; rintro _ w18 ⟨H0X, H0Xc, rfl, o18, e18⟩
    have NEWXH0X := hid (own_ne WX_17.out o18 (Nat.le_refl _)); have NEH0XWX := hid (own_ne' WX_17.out o18 (Nat.le_refl _))
    have NEGXH0X := hid (own_ne GX_17.out o18 (Nat.le_refl _)); have NEH0XGX := hid (own_ne' GX_17.out o18 (Nat.le_refl _))
    have BH0X := hid E17.out.size
    have E18 := hid (E17.out.trans e18)
    have WX_18 := hid (own_ext WX_17.out e18)
    have GX_18 := hid (own_ext GX_17.out e18)
    have H0X_18 := hid o18
    clear E17 WX_17 GX_17 e18 o18
    go_wp2_with fail
    refine (iBest_any q0 H0X n0 H0Xc l0 w18 (Row.of_own H0X_18.out) hl0 (by omega)).mono ?_; rintro _ w19 ⟨HX, mh, HXc, rfl, o19, e19⟩
    have hmh := own_len o19; obtain rfl : mg = mh := by omega
    have NEWXHX := hid (own_ne WX_18.out o19 (Nat.le_refl _)); have NEHXWX := hid (own_ne' WX_18.out o19 (Nat.le_refl _))
    have NEGXHX := hid (own_ne GX_18.out o19 (Nat.le_refl _)); have NEHXGX := hid (own_ne' GX_18.out o19 (Nat.le_refl _))
    have NEH0XHX := hid (own_ne H0X_18.out o19 (Nat.le_refl _)); have NEHXH0X := hid (own_ne' H0X_18.out o19 (Nat.le_refl _))
    have BHX := hid E18.out.size
    have E19 := hid (E18.out.trans e19)
    have WX_19 := hid (own_ext WX_18.out e19)
    have GX_19 := hid (own_ext GX_18.out e19)
    have H0X_19 := hid (own_ext H0X_18.out e19)
    have HX_19 := hid o19
    clear E18 WX_18 GX_18 H0X_18 e19 o19
    clear H0X_19
    go_wp2_with fail
    refine (eqIntS_same HX WX mg HXc WXc (bestOrder q0 l0) w19 (Row.of_own HX_19.out) (Row.of_own WX_19.out) hm' (by omega)).mono ?_; rintro _ w20 ⟨rfl, e20⟩
    have E20 := hid (E19.out.trans e20)
    have WX_20 := hid (own_ext WX_19.out e20)
    have GX_20 := hid (own_ext GX_19.out e20)
    have HX_20 := hid (own_ext HX_19.out e20)
    clear E19 WX_19 GX_19 HX_19 e20
    go_wp2_with fail
    refine (heldIntS_ok GX mg GXc 1 w20 (Row.of_own GX_20.out) (by omega) (by omega) (by omega)).mono ?_; rintro _ w21 ⟨rfl, e21⟩
    have E21 := hid (E20.out.trans e21)
    have WX_21 := hid (own_ext WX_20.out e21)
    have GX_21 := hid (own_ext GX_20.out e21)
    have HX_21 := hid (own_ext HX_20.out e21)
    clear E20 WX_20 GX_20 HX_20 e21
    go_wp2_with fail
    go_ret
    exact ⟨rfl, Ext.trans (by repeat (first | exact Ext.refl _ | refine Ext.alloc ?_ _ | assumption | refine Ext.over ?_ _ | refine Ext.drew ?_ | refine Ext.drewN ?_ _)) E21.out⟩
  · (unfold Gives; go_enter Try.func6, Try.ntmps6)
    go_wp2_with fail
    refine (szHouse_no q0 A0 n0 c0 (1048576) _ (by omega) (by omega) (by omega) (by omega)).mono ?_; rintro _ w1 ⟨rfl, e1⟩
    have E1 := hid e1
    clear e1
    go_wp2_with fail
    go_ret
    exact ⟨rfl, Ext.trans (by repeat (first | exact Ext.refl _ | refine Ext.alloc ?_ _ | assumption | refine Ext.over ?_ _ | refine Ext.drew ?_ | refine Ext.drewN ?_ _)) E1.out⟩

end fnExactBestOrder
end Go.Proofs.Ytngniniiohgilaa
