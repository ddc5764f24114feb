/- The walk of FnExactFilmedBy: it returns true. Conditions: its arguments read as lists.  -/
import Derived.Test.YtmghngdafgebjaaFilmed
import Derived.Test.YtmghngdafgebjaaHelpR
import Derived.Test.YtmghngdafgebjaaHelpRM
import Derived.Test.YtmghngdafgebjaaHelpRH
import Derived.Test.YtmghngdafgebjaaHelpC
import Derived.Test.YtmghngdafgebjaaHer
namespace Go.Proofs.Ytmghngdafgebjaa
open Go.RowKit
set_option linter.unusedVariables false
namespace fnExactFilmedBy
set_option maxHeartbeats 3200000 in
set_option maxRecDepth 100000 in
theorem walk (w : World) (A0 : Option Addr) (n0 c0 : Nat) (l0 : List T2) (hr0 : Row w A0 (l0.flatMap T2.v)) (hl0 : l0.length = n0) (hn0 : n0 ≤ maxLen) (hok0 : ∀ x ∈ l0, x.ok) (x1a : Int) (x1b : Int) (x1c : Int) (x1d : Int) (x1e : Int) (x1f : Int) (x1g : Int) (hx1a : i64r x1a) (hx1b : i64r x1b) (hx1c : i64r x1c) (hx1d : i64r x1d) (hx1e : i64r x1e) (hx1f : i64r x1f) (hx1g : i64r x1g) : Gives Try.prog 5 #[.agg #[.slice A0 n0 c0], .agg #[.int .i64 x1a, .int .i64 x1b, .int .i64 x1c, .int .i64 x1d, .int .i64 x1e, .int .i64 x1f, .int .i64 x1g]] w (.bool true) := by
  unfold maxLen at hn0
  by_cases hbig0 : (n0 : Int) ≤ 1048576
  · have hlen : (filmedL l0 (⟨x1a, x1b, x1c, x1d, x1e, x1f, x1g⟩ : T7)).length ≤ 8388608 := by have := filmedL_len l0 (⟨x1a, x1b, x1c, x1d, x1e, x1f, x1g⟩ : T7); omega
    (unfold Gives; go_enter Try.func5, Try.ntmps5)
    go_wp2_with fail
    refine (szRoom_ok  A0 n0 c0 (1048576) _ (by omega) (by omega)).mono ?_; rintro _ w1 ⟨rfl, e1⟩
    have E1 := hid e1
    clear e1
    have hb0 : ¬ ((((1048576 : Int) - n0) : Int) < 0) := by omega
    obtain ⟨xw1, hxw1⟩ := E1.out.ex; subst hxw1
    go_wp2_with fail
    refine wp_region_her [true, false, true, false, false, false] (by kernel_rfl) (by kernel_rfl) ?_
    simp only [selB, notB, List.map_cons, List.map_nil, Bool.not_true, Bool.not_false]
    repeat (refine wpH_step (fun K hK => ?_); go_simp; refine hK _ ?_; clear hK K)
    refine wpH_nil ?_
    refine wpT_step (fun w2 hw2 K hK => ?_)
    have e2 := later_ext hw2; clear hw2
    have E2 := hid (E1.out.trans e2)
    clear E1 e2
    go_simp
    refine (toRoom_any A0 n0 c0 l0 w2 (hr0.ext (Ext.trans (by repeat (first | exact Ext.refl _ | refine Ext.alloc ?_ _ | assumption | refine Ext.over ?_ _ | refine Ext.drew ?_ | refine Ext.drewN ?_ _)) E2.out)) hl0 (by omega)).mono ?_; rintro _ w3 ⟨S0X, S0Xc, rfl, o3, e3⟩
    refine ⟨_, rfl, hK _ _ e3.ex ?_⟩; clear hK K
    have BS0X := hid E2.out.size
    have E3 := hid (E2.out.trans e3)
    have S0X_3 := hid o3
    clear E2 e3 o3
    refine wpT_step (fun w4 hw4 K hK => ?_)
    have e4 := later_ext hw4; clear hw4
    have E4 := hid (E3.out.trans e4)
    have S0X_4 := hid (own_ext S0X_3.out e4)
    clear E3 S0X_3 e4
    go_simp
    refine (toCamera_any x1a x1b x1c x1d x1e x1f x1g w4).mono ?_; rintro _ w5 ⟨rfl, e5⟩
    refine ⟨_, rfl, hK _ _ e5.ex ?_⟩; clear hK K
    have E5 := hid (E4.out.trans e5)
    have S0X_5 := hid (own_ext S0X_4.out e5)
    clear E4 S0X_4 e5
    refine wpT_step (fun w6 hw6 K hK => ?_)
    have e6 := later_ext hw6; clear hw6
    have E6 := hid (E5.out.trans e6)
    have S0X_6 := hid (own_ext S0X_5.out e6)
    clear E5 S0X_5 e6
    go_simp
    refine (sFilmed_at S0X n0 S0Xc l0 x1a x1b x1c x1d x1e x1f x1g w6 (Row.of_own S0X_6.out) hl0 (by omega)).mono ?_; rintro _ w7 ⟨WX, mw, WXc, rfl, o7, e7⟩
    refine ⟨_, rfl, hK _ _ e7.ex ?_⟩; clear hK K
    have hm := own_len2 o7
    have NES0XWX := hid (own_ne S0X_6.out o7 (Nat.le_refl _)); have NEWXS0X := hid (own_ne' S0X_6.out o7 (Nat.le_refl _))
    have BWX := hid E6.out.size
    have E7 := hid (E6.out.trans e7)
    have S0X_7 := hid (own_ext S0X_6.out e7)
    have WX_7 := hid o7
    clear E6 S0X_6 e7 o7
    refine wpT_step (fun w8 hw8 K hK => ?_)
    have e8 := later_ext hw8; clear hw8
    have E8 := hid (E7.out.trans e8)
    have S0X_8 := hid (own_ext S0X_7.out e8)
    have WX_8 := hid (own_ext WX_7.out e8)
    clear E7 S0X_7 WX_7 e8
    go_simp; refine hK _ _ (Ext.ex (Ext.refl w8)) ?_; clear hK K
    refine wpT_nil (fun w9 hw9 => ?_)
    have e9 := later_ext hw9; clear hw9
    have E9 := hid (E8.out.trans e9)
    have S0X_9 := hid (own_ext S0X_8.out e9)
    have WX_9 := hid (own_ext WX_8.out e9)
    clear E8 S0X_8 WX_8 e9
    clear S0X_9
    obtain ⟨xw9, hxw9⟩ := E9.out.ex; subst hxw9
    go_wp2_with fail
    refine (toRoom_any A0 n0 c0 l0 _ (hr0.ext (Ext.trans (by repeat (first | exact Ext.refl _ | refine Ext.alloc ?_ _ | assumption | refine Ext.over ?_ _ | refine Ext.drew ?_ | refine Ext.drewN ?_ _)) E9.out)) hl0 (by omega)).mono ?_; rintro _ w10 ⟨I0X, I0Xc, rfl, o10, e10⟩
    have NEWXI0X := hid (own_ne WX_9.out o10 (Nat.le_refl _)); have NEI0XWX := hid (own_ne' WX_9.out o10 (Nat.le_refl _))
    have BI0X := hid E9.out.size
    have E10 := hid (E9.out.trans e10)
    have WX_10 := hid (own_ext WX_9.out e10)
    have I0X_10 := hid o10
    clear E9 WX_9 e10 o10
    go_wp2_with fail
    obtain ⟨w11, hw11⟩ : ∃ w11, w11 = World.alloc w10 (.cells #[.slice I0X n0 I0Xc] 33) := ⟨_, rfl⟩
    rw [← hw11]
    have e11 : Ext w10 w11 := by rw [hw11]; repeat (first | exact Ext.refl _ | refine Ext.alloc ?_ _ | assumption | refine Ext.over ?_ _ | refine Ext.drew ?_ | refine Ext.drewN ?_ _)
    have bx0p := (show w11.cell? ⟨w10.heap.size, 0, none⟩ = some (.slice I0X n0 I0Xc) by rw [hw11]; go_simp)
    clear hw11
    have E11 := hid (E10.out.trans e11)
    have WX_11 := hid (own_ext WX_10.out e11)
    have I0X_11 := hid (own_ext I0X_10.out e11)
    clear E10 WX_10 I0X_10 e11
    obtain ⟨xw11, hxw11⟩ := E11.out.ex; subst hxw11
    go_wp2_with fail
    refine wp_region_her [true, true, false, false, false] (by kernel_rfl) (by kernel_rfl) ?_
    simp only [selB, notB, List.map_cons, List.map_nil, Bool.not_true, Bool.not_false]
    repeat (refine wpH_step (fun K hK => ?_); go_simp; refine hK _ ?_; clear hK K)
    refine wpH_nil ?_
    refine wpT_step (fun w12 hw12 K hK => ?_)
    have e12 := later_ext hw12; clear hw12
    have E12 := hid (E11.out.trans e12)
    have WX_12 := hid (own_ext WX_11.out e12)
    have I0X_12 := hid (own_ext I0X_11.out e12)
    have bx0p_12 := old_cell e12 bx0p
    clear bx0p
    clear E11 WX_11 I0X_11 e12
    go_simp
    refine (toCamera_any x1a x1b x1c x1d x1e x1f x1g w12).mono ?_; rintro _ w13 ⟨rfl, e13⟩
    refine ⟨_, rfl, hK _ _ e13.ex ?_⟩; clear hK K
    have E13 := hid (E12.out.trans e13)
    have WX_13 := hid (own_ext WX_12.out e13)
    have I0X_13 := hid (own_ext I0X_12.out e13)
    have bx0p_13 := old_cell e13 bx0p_12
    clear bx0p_12
    clear E12 WX_12 I0X_12 e13
    refine wpT_step (fun w14 hw14 K hK => ?_)
    have e14 := later_ext hw14; clear hw14
    have E14 := hid (E13.out.trans e14)
    have WX_14 := hid (own_ext WX_13.out e14)
    have I0X_14 := hid (own_ext I0X_13.out e14)
    have bx0p_14 := old_cell e14 bx0p_13
    clear bx0p_13
    clear E13 WX_13 I0X_13 e14
    go_simp
    refine (iFilmed_at I0X n0 I0Xc l0 x1a x1b x1c x1d x1e x1f x1g w14 (Row.of_own I0X_14.out) hl0 (by omega)).mono ?_; rintro _ w15 ⟨GX, mg, GXc, rfl, o15, e15⟩
    refine ⟨_, rfl, hK _ _ e15.ex ?_⟩; clear hK K
    have hm' := own_len2 o15; obtain rfl : mg = mw := by omega
    have NEWXGX := hid (own_ne WX_14.out o15 (Nat.le_refl _)); have NEGXWX := hid (own_ne' WX_14.out o15 (Nat.le_refl _))
    have NEI0XGX := hid (own_ne I0X_14.out o15 (Nat.le_refl _)); have NEGXI0X := hid (own_ne' I0X_14.out o15 (Nat.le_refl _))
    have BGX := hid E14.out.size
    have E15 := hid (E14.out.trans e15)
    have WX_15 := hid (own_ext WX_14.out e15)
    have I0X_15 := hid (own_ext I0X_14.out e15)
    have GX_15 := hid o15
    have bx0p_15 := old_cell e15 bx0p_14
    clear bx0p_14
    clear E14 WX_14 I0X_14 e15 o15
    refine wpT_step (fun w16 hw16 K hK => ?_)
    have e16 := later_ext hw16; clear hw16
    have E16 := hid (E15.out.trans e16)
    have WX_16 := hid (own_ext WX_15.out e16)
    have I0X_16 := hid (own_ext I0X_15.out e16)
    have GX_16 := hid (own_ext GX_15.out e16)
    have bx0p_16 := old_cell e16 bx0p_15
    clear bx0p_15
    clear E15 WX_15 I0X_15 GX_15 e16
    go_simp; refine hK _ _ (Ext.ex (Ext.refl w16)) ?_; clear hK K
    refine wpT_nil (fun w17 hw17 => ?_)
    have e17 := later_ext hw17; clear hw17
    have E17 := hid (E16.out.trans e17)
    have WX_17 := hid (own_ext WX_16.out e17)
    have I0X_17 := hid (own_ext I0X_16.out e17)
    have GX_17 := hid (own_ext GX_16.out e17)
    have bx0p_17 := old_cell e17 bx0p_16
    clear bx0p_16
    clear E16 WX_16 I0X_16 GX_16 e17
    go_wp2_with fail
    refine (eqPointS_same GX WX mg GXc WXc (filmedL l0 (⟨x1a, x1b, x1c, x1d, x1e, x1f, x1g⟩ : T7)) w17 (Row.of_own GX_17.out) (Row.of_own WX_17.out) hm' (by omega)).mono ?_; rintro _ w18 ⟨rfl, e18⟩
    have E18 := hid (E17.out.trans e18)
    have WX_18 := hid (own_ext WX_17.out e18)
    have I0X_18 := hid (own_ext I0X_17.out e18)
    have GX_18 := hid (own_ext GX_17.out e18)
    have bx0p_18 := old_cell e18 bx0p_17
    clear bx0p_17
    clear E17 WX_17 I0X_17 GX_17 e18
    obtain ⟨xw18, hxw18⟩ := E18.out.ex; subst hxw18
    go_wp2_with fail
    refine wp_region_her [true, true, false, false, false] (by kernel_rfl) (by kernel_rfl) ?_
    simp only [selB, notB, List.map_cons, List.map_nil, Bool.not_true, Bool.not_false]
    repeat (refine wpH_step (fun K hK => ?_); go_simp; refine hK _ ?_; clear hK K)
    refine wpH_nil ?_
    refine wpT_step (fun w19 hw19 K hK => ?_)
    have e19 := later_ext hw19; clear hw19
    have E19 := hid (E18.out.trans e19)
    have WX_19 := hid (own_ext WX_18.out e19)
    have I0X_19 := hid (own_ext I0X_18.out e19)
    have GX_19 := hid (own_ext GX_18.out e19)
    have bx0p_19 := old_cell e19 bx0p_18
    clear bx0p_18
    clear E18 WX_18 I0X_18 GX_18 e19
    go_simp
    refine (toRoom_any A0 n0 c0 l0 w19 (hr0.ext (Ext.trans (by repeat (first | exact Ext.refl _ | refine Ext.alloc ?_ _ | assumption | refine Ext.over ?_ _ | refine Ext.drew ?_ | refine Ext.drewN ?_ _)) E19.out)) hl0 (by omega)).mono ?_; rintro _ w20 ⟨Q0X, Q0Xc, rfl, o20, e20⟩
    refine ⟨_, rfl, hK _ _ e20.ex ?_⟩; clear hK K
    have NEWXQ0X := hid (own_ne WX_19.out o20 (Nat.le_refl _)); have NEQ0XWX := hid (own_ne' WX_19.out o20 (Nat.le_refl _))
    have NEI0XQ0X := hid (own_ne I0X_19.out o20 (Nat.le_refl _)); have NEQ0XI0X := hid (own_ne' I0X_19.out o20 (Nat.le_refl _))
    have NEGXQ0X := hid (own_ne GX_19.out o20 (Nat.le_refl _)); have NEQ0XGX := hid (own_ne' GX_19.out o20 (Nat.le_refl _))
    have BQ0X := hid E19.out.size
    have E20 := hid (E19.out.trans e20)
    have WX_20 := hid (own_ext WX_19.out e20)
    have I0X_20 := hid (own_ext I0X_19.out e20)
    have GX_20 := hid (own_ext GX_19.out e20)
    have Q0X_20 := hid o20
    have bx0p_20 := old_cell e20 bx0p_19
    clear bx0p_19
    clear E19 WX_19 I0X_19 GX_19 e20 o20
    refine wpT_step (fun w21 hw21 K hK => ?_)
    have e21 := later_ext hw21; clear hw21
    have E21 := hid (E20.out.trans e21)
    have WX_21 := hid (own_ext WX_20.out e21)
    have I0X_21 := hid (own_ext I0X_20.out e21)
    have GX_21 := hid (own_ext GX_20.out e21)
    have Q0X_21 := hid (own_ext Q0X_20.out e21)
    have bx0p_21 := old_cell e21 bx0p_20
    clear bx0p_20
    clear E20 WX_20 I0X_20 GX_20 Q0X_20 e21
    go_simp
    refine (eqRoom_same  I0X Q0X n0 I0Xc Q0Xc l0 w21 (Row.of_own I0X_21.out) (Row.of_own Q0X_21.out) hl0 (by omega)).mono ?_; rintro _ w22 ⟨rfl, e22⟩
    refine ⟨_, rfl, hK _ _ e22.ex ?_⟩; clear hK K
    have E22 := hid (E21.out.trans e22)
    have WX_22 := hid (own_ext WX_21.out e22)
    have I0X_22 := hid (own_ext I0X_21.out e22)
    have GX_22 := hid (own_ext GX_21.out e22)
    have Q0X_22 := hid (own_ext Q0X_21.out e22)
    have bx0p_22 := old_cell e22 bx0p_21
    clear bx0p_21
    clear E21 WX_21 I0X_21 GX_21 Q0X_21 e22
    refine wpT_step (fun w23 hw23 K hK => ?_)
    have e23 := later_ext hw23; clear hw23
    have E23 := hid (E22.out.trans e23)
    have WX_23 := hid (own_ext WX_22.out e23)
    have I0X_23 := hid (own_ext I0X_22.out e23)
    have GX_23 := hid (own_ext GX_22.out e23)
    have Q0X_23 := hid (own_ext Q0X_22.out e23)
    have bx0p_23 := old_cell e23 bx0p_22
    clear bx0p_22
    clear E22 WX_22 I0X_22 GX_22 Q0X_22 e23
    go_simp; refine hK _ _ (Ext.ex (Ext.refl w23)) ?_; clear hK K
    refine wpT_nil (fun w24 hw24 => ?_)
    have e24 := later_ext hw24; clear hw24
    have E24 := hid (E23.out.trans e24)
    have WX_24 := hid (own_ext WX_23.out e24)
    have I0X_24 := hid (own_ext I0X_23.out e24)
    have GX_24 := hid (own_ext GX_23.out e24)
    have Q0X_24 := hid (own_ext Q0X_23.out e24)
    have bx0p_24 := old_cell e24 bx0p_23
    clear bx0p_23
    clear E23 WX_23 I0X_23 GX_23 Q0X_23 e24
    clear Q0X_24
    go_wp2_with fail
    try clear bx0p_24
    refine (markRoom_any  I0X n0 I0Xc _ _ (1) w24 I0X_24.out (by omega) (by omega) (by omega)).mono ?_; rintro _ w25 ⟨rfl, g25, s25, o25⟩
    have E25 := hid (grown_ext E24.out I0X_24.out BI0X.out g25)
    have WX_25 := hid (WX_24.out.kept g25 NEWXI0X.out)
    have I0X_25 := hid o25
    have GX_25 := hid (GX_24.out.kept g25 NEGXI0X.out)
    clear E24 WX_24 I0X_24 GX_24 g25 s25 o25
    clear I0X_25
    have hk : ¬ ((((1 : Int) + 2 * n0) : Int) < 0) := by omega
    go_wp2_with fail
    refine (eqPointS_same GX WX mg GXc WXc (filmedL l0 (⟨x1a, x1b, x1c, x1d, x1e, x1f, x1g⟩ : T7)) w25 (Row.of_own GX_25.out) (Row.of_own WX_25.out) hm' (by omega)).mono ?_; rintro _ w26 ⟨rfl, e26⟩
    have E26 := hid (E25.out.trans e26)
    have WX_26 := hid (own_ext WX_25.out e26)
    have GX_26 := hid (own_ext GX_25.out e26)
    clear E25 WX_25 GX_25 e26
    go_wp2_with fail
    refine (markPointS_any GX mg GXc _ _ 1 w26 GX_26.out (by omega) (by omega) (by omega)).mono ?_; rintro _ w27 ⟨rfl, g27, s27, o27⟩
    have E27 := hid (grown_ext E26.out GX_26.out BGX.out g27)
    have WX_27 := hid (WX_26.out.kept g27 NEWXGX.out)
    have GX_27 := hid o27
    clear E26 WX_26 GX_26 g27 s27 o27
    go_wp2_with fail
    refine (heldPointS_ok GX mg GXc 1 w27 (Row.of_own GX_27.out) (by omega) (by omega) (by omega)).mono ?_; rintro _ w28 ⟨rfl, e28⟩
    have E28 := hid (E27.out.trans e28)
    have WX_28 := hid (own_ext WX_27.out e28)
    have GX_28 := hid (own_ext GX_27.out e28)
    clear E27 WX_27 GX_27 e28
    have hq : ¬ ((1 : Int) + 2 * mg < 0) := by omega
    obtain ⟨xw28, hxw28⟩ := E28.out.ex; subst hxw28
    go_wp2_with fail
    refine wp_region_her [true, false, true, false, false, false] (by kernel_rfl) (by kernel_rfl) ?_
    simp only [selB, notB, List.map_cons, List.map_nil, Bool.not_true, Bool.not_false]
    repeat (refine wpH_step (fun K hK => ?_); go_simp; refine hK _ ?_; clear hK K)
    refine wpH_nil ?_
    refine wpT_step (fun w29 hw29 K hK => ?_)
    have e29 := later_ext hw29; clear hw29
    have E29 := hid (E28.out.trans e29)
    have WX_29 := hid (own_ext WX_28.out e29)
    have GX_29 := hid (own_ext GX_28.out e29)
    clear E28 WX_28 GX_28 e29
    go_simp
    refine (toRoom_any A0 n0 c0 l0 w29 (hr0.ext (Ext.trans (by repeat (first | exact Ext.refl _ | refine Ext.alloc ?_ _ | assumption | refine Ext.over ?_ _ | refine Ext.drew ?_ | refine Ext.drewN ?_ _)) E29.out)) hl0 (by omega)).mono ?_; rintro _ w30 ⟨H0X, H0Xc, rfl, o30, e30⟩
    refine ⟨_, rfl, hK _ _ e30.ex ?_⟩; clear hK K
    have NEWXH0X := hid (own_ne WX_29.out o30 (Nat.le_refl _)); have NEH0XWX := hid (own_ne' WX_29.out o30 (Nat.le_refl _))
    have NEGXH0X := hid (own_ne GX_29.out o30 (Nat.le_refl _)); have NEH0XGX := hid (own_ne' GX_29.out o30 (Nat.le_refl _))
    have BH0X := hid E29.out.size
    have E30 := hid (E29.out.trans e30)
    have WX_30 := hid (own_ext WX_29.out e30)
    have GX_30 := hid (own_ext GX_29.out e30)
    have H0X_30 := hid o30
    clear E29 WX_29 GX_29 e30 o30
    refine wpT_step (fun w31 hw31 K hK => ?_)
    have e31 := later_ext hw31; clear hw31
    have E31 := hid (E30.out.trans e31)
    have WX_31 := hid (own_ext WX_30.out e31)
    have GX_31 := hid (own_ext GX_30.out e31)
    have H0X_31 := hid (own_ext H0X_30.out e31)
    clear E30 WX_30 GX_30 H0X_30 e31
    go_simp
    refine (toCamera_any x1a x1b x1c x1d x1e x1f x1g w31).mono ?_; rintro _ w32 ⟨rfl, e32⟩
    refine ⟨_, rfl, hK _ _ e32.ex ?_⟩; clear hK K
    have E32 := hid (E31.out.trans e32)
    have WX_32 := hid (own_ext WX_31.out e32)
    have GX_32 := hid (own_ext GX_31.out e32)
    have H0X_32 := hid (own_ext H0X_31.out e32)
    clear E31 WX_31 GX_31 H0X_31 e32
    refine wpT_step (fun w33 hw33 K hK => ?_)
    have e33 := later_ext hw33; clear hw33
    have E33 := hid (E32.out.trans e33)
    have WX_33 := hid (own_ext WX_32.out e33)
    have GX_33 := hid (own_ext GX_32.out e33)
    have H0X_33 := hid (own_ext H0X_32.out e33)
    clear E32 WX_32 GX_32 H0X_32 e33
    go_simp
    refine (iFilmed_at H0X n0 H0Xc l0 x1a x1b x1c x1d x1e x1f x1g w33 (Row.of_own H0X_33.out) hl0 (by omega)).mono ?_; rintro _ w34 ⟨HX, mh, HXc, rfl, o34, e34⟩
    refine ⟨_, rfl, hK _ _ e34.ex ?_⟩; clear hK K
    have hmh := own_len2 o34; obtain rfl : mg = mh := by omega
    have NEWXHX := hid (own_ne WX_33.out o34 (Nat.le_refl _)); have NEHXWX := hid (own_ne' WX_33.out o34 (Nat.le_refl _))
    have NEGXHX := hid (own_ne GX_33.out o34 (Nat.le_refl _)); have NEHXGX := hid (own_ne' GX_33.out o34 (Nat.le_refl _))
    have NEH0XHX := hid (own_ne H0X_33.out o34 (Nat.le_refl _)); have NEHXH0X := hid (own_ne' H0X_33.out o34 (Nat.le_refl _))
    have BHX := hid E33.out.size
    have E34 := hid (E33.out.trans e34)
    have WX_34 := hid (own_ext WX_33.out e34)
    have GX_34 := hid (own_ext GX_33.out e34)
    have H0X_34 := hid (own_ext H0X_33.out e34)
    have HX_34 := hid o34
    clear E33 WX_33 GX_33 H0X_33 e34 o34
    refine wpT_step (fun w35 hw35 K hK => ?_)
    have e35 := later_ext hw35; clear hw35
    have E35 := hid (E34.out.trans e35)
    have WX_35 := hid (own_ext WX_34.out e35)
    have GX_35 := hid (own_ext GX_34.out e35)
    have H0X_35 := hid (own_ext H0X_34.out e35)
    have HX_35 := hid (own_ext HX_34.out e35)
    clear E34 WX_34 GX_34 H0X_34 HX_34 e35
    go_simp; refine hK _ _ (Ext.ex (Ext.refl w35)) ?_; clear hK K
    refine wpT_nil (fun w36 hw36 => ?_)
    have e36 := later_ext hw36; clear hw36
    have E36 := hid (E35.out.trans e36)
    have WX_36 := hid (own_ext WX_35.out e36)
    have GX_36 := hid (own_ext GX_35.out e36)
    have H0X_36 := hid (own_ext H0X_35.out e36)
    have HX_36 := hid (own_ext HX_35.out e36)
    clear E35 WX_35 GX_35 H0X_35 HX_35 e36
    clear H0X_36
    go_wp2_with fail
    refine (eqPointS_same HX WX mg HXc WXc (filmedL l0 (⟨x1a, x1b, x1c, x1d, x1e, x1f, x1g⟩ : T7)) w36 (Row.of_own HX_36.out) (Row.of_own WX_36.out) hm' (by omega)).mono ?_; rintro _ w37 ⟨rfl, e37⟩
    have E37 := hid (E36.out.trans e37)
    have WX_37 := hid (own_ext WX_36.out e37)
    have GX_37 := hid (own_ext GX_36.out e37)
    have HX_37 := hid (own_ext HX_36.out e37)
    clear E36 WX_36 GX_36 HX_36 e37
    go_wp2_with fail
    refine (heldPointS_ok GX mg GXc 1 w37 (Row.of_own GX_37.out) (by omega) (by omega) (by omega)).mono ?_; rintro _ w38 ⟨rfl, e38⟩
    have E38 := hid (E37.out.trans e38)
    have WX_38 := hid (own_ext WX_37.out e38)
    have GX_38 := hid (own_ext GX_37.out e38)
    have HX_38 := hid (own_ext HX_37.out e38)
    clear E37 WX_37 GX_37 HX_37 e38
    go_wp2_with fail
    go_ret
    exact ⟨rfl, Ext.trans (by repeat (first | exact Ext.refl _ | refine Ext.alloc ?_ _ | assumption | refine Ext.over ?_ _ | refine Ext.drew ?_ | refine Ext.drewN ?_ _)) E38.out⟩
  · (unfold Gives; go_enter Try.func5, Try.ntmps5)
    go_wp2_with fail
    refine (szRoom_no  A0 n0 c0 (1048576) _ (by omega) (by omega) (by omega) (by omega)).mono ?_; rintro _ w1 ⟨rfl, e1⟩
    have E1 := hid e1
    clear e1
    go_wp2_with fail
    go_ret
    exact ⟨rfl, Ext.trans (by repeat (first | exact Ext.refl _ | refine Ext.alloc ?_ _ | assumption | refine Ext.over ?_ _ | refine Ext.drew ?_ | refine Ext.drewN ?_ _)) E1.out⟩

end fnExactFilmedBy
end Go.Proofs.Ytmghngdafgebjaa
