/- The walk of FnExactBlindPoints: it returns true. Conditions: its arguments read as lists.  -/
import Derived.Test.YtmghngdafgebjaaBlind
import Derived.Test.YtmghngdafgebjaaHelpR
import Derived.Test.YtmghngdafgebjaaHelpRM
import Derived.Test.YtmghngdafgebjaaHelpRH
import Derived.Test.YtmghngdafgebjaaHelpC
import Derived.Test.YtmghngdafgebjaaHelpCS
import Derived.Test.YtmghngdafgebjaaHelpCM
import Derived.Test.YtmghngdafgebjaaHer
namespace Go.Proofs.Ytmghngdafgebjaa
open Go.RowKit
set_option linter.unusedVariables false
namespace fnExactBlindPoints
set_option maxHeartbeats 3200000 in
set_option maxRecDepth 100000 in
theorem walk (w : World) (A0 : Option Addr) (n0 c0 : Nat) (l0 : List T2) (hr0 : Row w A0 (l0.flatMap T2.v)) (hl0 : l0.length = n0) (hn0 : n0 ≤ maxLen) (hok0 : ∀ x ∈ l0, x.ok) (A1 : Option Addr) (n1 c1 : Nat) (l1 : List T7) (hr1 : Row w A1 (l1.flatMap T7.v)) (hl1 : l1.length = n1) (hn1 : n1 ≤ maxLen) (hok1 : ∀ x ∈ l1, x.ok) : Gives Try.prog 6 #[.agg #[.slice A0 n0 c0], .slice A1 n1 c1] w (.bool true) := by
  unfold maxLen at hn0
  unfold maxLen at hn1
  by_cases hbig0 : (n0 : Int) ≤ 1048576
  · by_cases hbig1 : (n1 : Int) ≤ 1048576 - n0
    · have hlen : (blindL l0 l1).length ≤ 8388608 := by have := blindL_len l0 l1; omega
      (unfold Gives; go_enter Try.func6, Try.ntmps6)
      go_wp2_with fail
      refine (szRoom_ok  A0 n0 c0 (1048576) _ (by omega) (by omega)).mono ?_; rintro _ w1 ⟨rfl, e1⟩
      have E1 := hid e1
      clear e1
      have hb0 : ¬ ((((1048576 : Int) - n0) : Int) < 0) := by omega
      go_wp2_with fail
      refine (szCameraS_ok  A1 n1 c1 (1048576 - n0) w1 (by omega) (by omega)).mono ?_; rintro _ w2 ⟨rfl, e2⟩
      have E2 := hid (E1.out.trans e2)
      clear E1 e2
      have hb1 : ¬ ((((1048576 : Int) - n0 - n1) : Int) < 0) := by omega
      obtain ⟨xw2, hxw2⟩ := E2.out.ex; subst hxw2
      go_wp2_with fail
      refine (toRoom_any A0 n0 c0 l0 _ (hr0.ext (Ext.trans (by repeat (first | exact Ext.refl _ | refine Ext.alloc ?_ _ | assumption | refine Ext.over ?_ _ | refine Ext.drew ?_ | refine Ext.drewN ?_ _)) E2.out)) hl0 (by omega)).mono ?_; rintro _ w3 ⟨S0X, S0Xc, rfl, o3, e3⟩
      have BS0X := hid E2.out.size
      have E3 := hid (E2.out.trans e3)
      have S0X_3 := hid o3
      clear E2 e3 o3
      go_wp2_with fail
      refine (toCameraS_any A1 n1 c1 l1 w3 (hr1.ext (Ext.trans (by repeat (first | exact Ext.refl _ | refine Ext.alloc ?_ _ | assumption | refine Ext.over ?_ _ | refine Ext.drew ?_ | refine Ext.drewN ?_ _)) E3.out)) hl1 (by omega)).mono ?_; rintro _ w4 ⟨S1X, S1Xc, rfl, o4, e4⟩
      have NES0XS1X := hid (own_ne S0X_3.out o4 (Nat.le_refl _)); have NES1XS0X := hid (own_ne' S0X_3.out o4 (Nat.le_refl _))
      have BS1X := hid E3.out.size
      have E4 := hid (E3.out.trans e4)
      have S0X_4 := hid (own_ext S0X_3.out e4)
      have S1X_4 := hid o4
      clear E3 S0X_3 e4 o4
      go_wp2_with fail
      refine (sBlind_any S0X n0 S0Xc l0 S1X n1 S1Xc l1 w4 (Row.of_own S0X_4.out) hl0 (by omega) (Row.of_own S1X_4.out) hl1 (by omega)).mono ?_; rintro _ w5 ⟨WX, mw, WXc, rfl, o5, e5⟩
      have hm := own_len2 o5
      have NES0XWX := hid (own_ne S0X_4.out o5 (Nat.le_refl _)); have NEWXS0X := hid (own_ne' S0X_4.out o5 (Nat.le_refl _))
      have NES1XWX := hid (own_ne S1X_4.out o5 (Nat.le_refl _)); have NEWXS1X := hid (own_ne' S1X_4.out o5 (Nat.le_refl _))
      have BWX := hid E4.out.size
      have E5 := hid (E4.out.trans e5)
      have S0X_5 := hid (own_ext S0X_4.out e5)
      have S1X_5 := hid (own_ext S1X_4.out e5)
      have WX_5 := hid o5
      clear E4 S0X_4 S1X_4 e5 o5
      clear S0X_5
      clear S1X_5
      obtain ⟨xw5, hxw5⟩ := E5.out.ex; subst hxw5
      go_wp2_with fail
      refine (toRoom_any A0 n0 c0 l0 _ (hr0.ext (Ext.trans (by repeat (first | exact Ext.refl _ | refine Ext.alloc ?_ _ | assumption | refine Ext.over ?_ _ | refine Ext.drew ?_ | refine Ext.drewN ?_ _)) E5.out)) hl0 (by omega)).mono ?_; rintro _ w6 ⟨I0X, I0Xc, rfl, o6, e6⟩
      have NEWXI0X := hid (own_ne WX_5.out o6 (Nat.le_refl _)); have NEI0XWX := hid (own_ne' WX_5.out o6 (Nat.le_refl _))
      have BI0X := hid E5.out.size
      have E6 := hid (E5.out.trans e6)
      have WX_6 := hid (own_ext WX_5.out e6)
      have I0X_6 := hid o6
      clear E5 WX_5 e6 o6
      go_wp2_with fail
      obtain ⟨w7, hw7⟩ : ∃ w7, w7 = World.alloc w6 (.cells #[.slice I0X n0 I0Xc] 33) := ⟨_, rfl⟩
      rw [← hw7]
      have e7 : Ext w6 w7 := by rw [hw7]; repeat (first | exact Ext.refl _ | refine Ext.alloc ?_ _ | assumption | refine Ext.over ?_ _ | refine Ext.drew ?_ | refine Ext.drewN ?_ _)
      have bx0p := (show w7.cell? ⟨w6.heap.size, 0, none⟩ = some (.slice I0X n0 I0Xc) by rw [hw7]; go_simp)
      clear hw7
      have E7 := hid (E6.out.trans e7)
      have WX_7 := hid (own_ext WX_6.out e7)
      have I0X_7 := hid (own_ext I0X_6.out e7)
      clear E6 WX_6 I0X_6 e7
      refine (toCameraS_any A1 n1 c1 l1 w7 (hr1.ext (Ext.trans (by repeat (first | exact Ext.refl _ | refine Ext.alloc ?_ _ | assumption | refine Ext.over ?_ _ | refine Ext.drew ?_ | refine Ext.drewN ?_ _)) E7.out)) hl1 (by omega)).mono ?_; rintro _ w8 ⟨I1X, I1Xc, rfl, o8, e8⟩
      have NEWXI1X := hid (own_ne WX_7.out o8 (Nat.le_refl _)); have NEI1XWX := hid (own_ne' WX_7.out o8 (Nat.le_refl _))
      have NEI0XI1X := hid (own_ne I0X_7.out o8 (Nat.le_refl _)); have NEI1XI0X := hid (own_ne' I0X_7.out o8 (Nat.le_refl _))
      have BI1X := hid E7.out.size
      have E8 := hid (E7.out.trans e8)
      have WX_8 := hid (own_ext WX_7.out e8)
      have I0X_8 := hid (own_ext I0X_7.out e8)
      have I1X_8 := hid o8
      have bx0p_8 := old_cell e8 bx0p
      clear bx0p
      clear E7 WX_7 I0X_7 e8 o8
      go_wp2_with fail
      refine (iBlind_any I0X n0 I0Xc l0 I1X n1 I1Xc l1 w8 (Row.of_own I0X_8.out) hl0 (by omega) (Row.of_own I1X_8.out) hl1 (by omega)).mono ?_; rintro _ w9 ⟨GX, mg, GXc, rfl, o9, e9⟩
      have hm' := own_len2 o9; obtain rfl : mg = mw := by omega
      have NEWXGX := hid (own_ne WX_8.out o9 (Nat.le_refl _)); have NEGXWX := hid (own_ne' WX_8.out o9 (Nat.le_refl _))
      have NEI0XGX := hid (own_ne I0X_8.out o9 (Nat.le_refl _)); have NEGXI0X := hid (own_ne' I0X_8.out o9 (Nat.le_refl _))
      have NEI1XGX := hid (own_ne I1X_8.out o9 (Nat.le_refl _)); have NEGXI1X := hid (own_ne' I1X_8.out o9 (Nat.le_refl _))
      have BGX := hid E8.out.size
      have E9 := hid (E8.out.trans e9)
      have WX_9 := hid (own_ext WX_8.out e9)
      have I0X_9 := hid (own_ext I0X_8.out e9)
      have I1X_9 := hid (own_ext I1X_8.out e9)
      have GX_9 := hid o9
      have bx0p_9 := old_cell e9 bx0p_8
      clear bx0p_8
      clear E8 WX_8 I0X_8 I1X_8 e9 o9
      go_wp2_with fail
      refine (eqPointS_same GX WX mg GXc WXc (blindL l0 l1) w9 (Row.of_own GX_9.out) (Row.of_own WX_9.out) hm' (by omega)).mono ?_; rintro _ w10 ⟨rfl, e10⟩
      have E10 := hid (E9.out.trans e10)
      have WX_10 := hid (own_ext WX_9.out e10)
      have I0X_10 := hid (own_ext I0X_9.out e10)
      have I1X_10 := hid (own_ext I1X_9.out e10)
      have GX_10 := hid (own_ext GX_9.out e10)
      have bx0p_10 := old_cell e10 bx0p_9
      clear bx0p_9
      clear E9 WX_9 I0X_9 I1X_9 GX_9 e10
      obtain ⟨xw10, hxw10⟩ := E10.out.ex; subst hxw10
      go_wp2_with fail
      refine wp_region_her [true, true, false, false, false] (by kernel_rfl) (by kernel_rfl) ?_
      simp only [selB, notB, List.map_cons, List.map_nil, Bool.not_true, Bool.not_false]
      repeat (refine wpH_step (fun K hK => ?_); go_simp; refine hK _ ?_; clear hK K)
      refine wpH_nil ?_
      refine wpT_step (fun w11 hw11 K hK => ?_)
      have e11 := later_ext hw11; clear hw11
      have E11 := hid (E10.out.trans e11)
      have WX_11 := hid (own_ext WX_10.out e11)
      have I0X_11 := hid (own_ext I0X_10.out e11)
      have I1X_11 := hid (own_ext I1X_10.out e11)
      have GX_11 := hid (own_ext GX_10.out e11)
      have bx0p_11 := old_cell e11 bx0p_10
      clear bx0p_10
      clear E10 WX_10 I0X_10 I1X_10 GX_10 e11
      go_simp
      refine (toRoom_any A0 n0 c0 l0 w11 (hr0.ext (Ext.trans (by repeat (first | exact Ext.refl _ | refine Ext.alloc ?_ _ | assumption | refine Ext.over ?_ _ | refine Ext.drew ?_ | refine Ext.drewN ?_ _)) E11.out)) hl0 (by omega)).mono ?_; rintro _ w12 ⟨Q0X, Q0Xc, rfl, o12, e12⟩
      refine ⟨_, rfl, hK _ _ e12.ex ?_⟩; clear hK K
      have NEWXQ0X := hid (own_ne WX_11.out o12 (Nat.le_refl _)); have NEQ0XWX := hid (own_ne' WX_11.out o12 (Nat.le_refl _))
      have NEI0XQ0X := hid (own_ne I0X_11.out o12 (Nat.le_refl _)); have NEQ0XI0X := hid (own_ne' I0X_11.out o12 (Nat.le_refl _))
      have NEI1XQ0X := hid (own_ne I1X_11.out o12 (Nat.le_refl _)); have NEQ0XI1X := hid (own_ne' I1X_11.out o12 (Nat.le_refl _))
      have NEGXQ0X := hid (own_ne GX_11.out o12 (Nat.le_refl _)); have NEQ0XGX := hid (own_ne' GX_11.out o12 (Nat.le_refl _))
      have BQ0X := hid E11.out.size
      have E12 := hid (E11.out.trans e12)
      have WX_12 := hid (own_ext WX_11.out e12)
      have I0X_12 := hid (own_ext I0X_11.out e12)
      have I1X_12 := hid (own_ext I1X_11.out e12)
      have GX_12 := hid (own_ext GX_11.out e12)
      have Q0X_12 := hid o12
      have bx0p_12 := old_cell e12 bx0p_11
      clear bx0p_11
      clear E11 WX_11 I0X_11 I1X_11 GX_11 e12 o12
      refine wpT_step (fun w13 hw13 K hK => ?_)
      have e13 := later_ext hw13; clear hw13
      have E13 := hid (E12.out.trans e13)
      have WX_13 := hid (own_ext WX_12.out e13)
      have I0X_13 := hid (own_ext I0X_12.out e13)
      have I1X_13 := hid (own_ext I1X_12.out e13)
      have GX_13 := hid (own_ext GX_12.out e13)
      have Q0X_13 := hid (own_ext Q0X_12.out e13)
      have bx0p_13 := old_cell e13 bx0p_12
      clear bx0p_12
      clear E12 WX_12 I0X_12 I1X_12 GX_12 Q0X_12 e13
      go_simp
      refine (eqRoom_same  I0X Q0X n0 I0Xc Q0Xc l0 w13 (Row.of_own I0X_13.out) (Row.of_own Q0X_13.out) hl0 (by omega)).mono ?_; rintro _ w14 ⟨rfl, e14⟩
      refine ⟨_, rfl, hK _ _ e14.ex ?_⟩; clear hK K
      have E14 := hid (E13.out.trans e14)
      have WX_14 := hid (own_ext WX_13.out e14)
      have I0X_14 := hid (own_ext I0X_13.out e14)
      have I1X_14 := hid (own_ext I1X_13.out e14)
      have GX_14 := hid (own_ext GX_13.out e14)
      have Q0X_14 := hid (own_ext Q0X_13.out e14)
      have bx0p_14 := old_cell e14 bx0p_13
      clear bx0p_13
      clear E13 WX_13 I0X_13 I1X_13 GX_13 Q0X_13 e14
      refine wpT_step (fun w15 hw15 K hK => ?_)
      have e15 := later_ext hw15; clear hw15
      have E15 := hid (E14.out.trans e15)
      have WX_15 := hid (own_ext WX_14.out e15)
      have I0X_15 := hid (own_ext I0X_14.out e15)
      have I1X_15 := hid (own_ext I1X_14.out e15)
      have GX_15 := hid (own_ext GX_14.out e15)
      have Q0X_15 := hid (own_ext Q0X_14.out e15)
      have bx0p_15 := old_cell e15 bx0p_14
      clear bx0p_14
      clear E14 WX_14 I0X_14 I1X_14 GX_14 Q0X_14 e15
      go_simp; refine hK _ _ (Ext.ex (Ext.refl w15)) ?_; clear hK K
      refine wpT_nil (fun w16 hw16 => ?_)
      have e16 := later_ext hw16; clear hw16
      have E16 := hid (E15.out.trans e16)
      have WX_16 := hid (own_ext WX_15.out e16)
      have I0X_16 := hid (own_ext I0X_15.out e16)
      have I1X_16 := hid (own_ext I1X_15.out e16)
      have GX_16 := hid (own_ext GX_15.out e16)
      have Q0X_16 := hid (own_ext Q0X_15.out e16)
      have bx0p_16 := old_cell e16 bx0p_15
      clear bx0p_15
      clear E15 WX_15 I0X_15 I1X_15 GX_15 Q0X_15 e16
      clear Q0X_16
      go_wp2_with fail
      refine (toCameraS_any A1 n1 c1 l1 w16 (hr1.ext (Ext.trans (by repeat (first | exact Ext.refl _ | refine Ext.alloc ?_ _ | assumption | refine Ext.over ?_ _ | refine Ext.drew ?_ | refine Ext.drewN ?_ _)) E16.out)) hl1 (by omega)).mono ?_; rintro _ w17 ⟨Q1X, Q1Xc, rfl, o17, e17⟩
      have NEWXQ1X := hid (own_ne WX_16.out o17 (Nat.le_refl _)); have NEQ1XWX := hid (own_ne' WX_16.out o17 (Nat.le_refl _))
      have NEI0XQ1X := hid (own_ne I0X_16.out o17 (Nat.le_refl _)); have NEQ1XI0X := hid (own_ne' I0X_16.out o17 (Nat.le_refl _))
      have NEI1XQ1X := hid (own_ne I1X_16.out o17 (Nat.le_refl _)); have NEQ1XI1X := hid (own_ne' I1X_16.out o17 (Nat.le_refl _))
      have NEGXQ1X := hid (own_ne GX_16.out o17 (Nat.le_refl _)); have NEQ1XGX := hid (own_ne' GX_16.out o17 (Nat.le_refl _))
      have BQ1X := hid E16.out.size
      have E17 := hid (E16.out.trans e17)
      have WX_17 := hid (own_ext WX_16.out e17)
      have I0X_17 := hid (own_ext I0X_16.out e17)
      have I1X_17 := hid (own_ext I1X_16.out e17)
      have GX_17 := hid (own_ext GX_16.out e17)
      have Q1X_17 := hid o17
      have bx0p_17 := old_cell e17 bx0p_16
      clear bx0p_16
      clear E16 WX_16 I0X_16 I1X_16 GX_16 e17 o17
      go_wp2_with fail
      refine (eqCameraS_same  I1X Q1X n1 I1Xc Q1Xc l1 w17 (Row.of_own I1X_17.out) (Row.of_own Q1X_17.out) hl1 (by omega)).mono ?_; rintro _ w18 ⟨rfl, e18⟩
      have E18 := hid (E17.out.trans e18)
      have WX_18 := hid (own_ext WX_17.out e18)
      have I0X_18 := hid (own_ext I0X_17.out e18)
      have I1X_18 := hid (own_ext I1X_17.out e18)
      have GX_18 := hid (own_ext GX_17.out e18)
      have Q1X_18 := hid (own_ext Q1X_17.out e18)
      have bx0p_18 := old_cell e18 bx0p_17
      clear bx0p_17
      clear E17 WX_17 I0X_17 I1X_17 GX_17 Q1X_17 e18
      clear Q1X_18
      go_wp2_with fail
      try clear bx0p_18
      refine (markRoom_any  I0X n0 I0Xc _ _ (1) w18 I0X_18.out (by omega) (by omega) (by omega)).mono ?_; rintro _ w19 ⟨rfl, g19, s19, o19⟩
      have E19 := hid (grown_ext E18.out I0X_18.out BI0X.out g19)
      have WX_19 := hid (WX_18.out.kept g19 NEWXI0X.out)
      have I0X_19 := hid o19
      have I1X_19 := hid (I1X_18.out.kept g19 NEI1XI0X.out)
      have GX_19 := hid (GX_18.out.kept g19 NEGXI0X.out)
      clear E18 WX_18 I0X_18 I1X_18 GX_18 g19 s19 o19
      clear I0X_19
      go_wp2_with fail
      refine (markCameraS_any  I1X n1 I1Xc _ _ (1 + 2 * n0) w19 I1X_19.out (by omega) (by omega) (by omega)).mono ?_; rintro _ w20 ⟨rfl, g20, s20, o20⟩
      have E20 := hid (grown_ext E19.out I1X_19.out BI1X.out g20)
      have WX_20 := hid (WX_19.out.kept g20 NEWXI1X.out)
      have I1X_20 := hid o20
      have GX_20 := hid (GX_19.out.kept g20 NEGXI1X.out)
      clear E19 WX_19 I1X_19 GX_19 g20 s20 o20
      clear I1X_20
      have hk : ¬ ((((1 : Int) + 2 * n0 + 7 * n1) : Int) < 0) := by omega
      go_wp2_with fail
      refine (eqPointS_same GX WX mg GXc WXc (blindL l0 l1) w20 (Row.of_own GX_20.out) (Row.of_own WX_20.out) hm' (by omega)).mono ?_; rintro _ w21 ⟨rfl, e21⟩
      have E21 := hid (E20.out.trans e21)
      have WX_21 := hid (own_ext WX_20.out e21)
      have GX_21 := hid (own_ext GX_20.out e21)
      clear E20 WX_20 GX_20 e21
      go_wp2_with fail
      refine (markPointS_any GX mg GXc _ _ 1 w21 GX_21.out (by omega) (by omega) (by omega)).mono ?_; rintro _ w22 ⟨rfl, g22, s22, o22⟩
      have E22 := hid (grown_ext E21.out GX_21.out BGX.out g22)
      have WX_22 := hid (WX_21.out.kept g22 NEWXGX.out)
      have GX_22 := hid o22
      clear E21 WX_21 GX_21 g22 s22 o22
      go_wp2_with fail
      refine (heldPointS_ok GX mg GXc 1 w22 (Row.of_own GX_22.out) (by omega) (by omega) (by omega)).mono ?_; rintro _ w23 ⟨rfl, e23⟩
      have E23 := hid (E22.out.trans e23)
      have WX_23 := hid (own_ext WX_22.out e23)
      have GX_23 := hid (own_ext GX_22.out e23)
      clear E22 WX_22 GX_22 e23
      have hq : ¬ ((1 : Int) + 2 * mg < 0) := by omega
      obtain ⟨xw23, hxw23⟩ := E23.out.ex; subst hxw23
      go_wp2_with fail
      refine (toRoom_any A0 n0 c0 l0 _ (hr0.ext (Ext.trans (by repeat (first | exact Ext.refl _ | refine Ext.alloc ?_ _ | assumption | refine Ext.over ?_ _ | refine Ext.drew ?_ | refine Ext.drewN ?_ _)) E23.out)) hl0 (by omega)).mono ?_; rintro _ w24 ⟨H0X, H0Xc, rfl, o24, e24⟩
      have NEWXH0X := hid (own_ne WX_23.out o24 (Nat.le_refl _)); have NEH0XWX := hid (own_ne' WX_23.out o24 (Nat.le_refl _))
      have NEGXH0X := hid (own_ne GX_23.out o24 (Nat.le_refl _)); have NEH0XGX := hid (own_ne' GX_23.out o24 (Nat.le_refl _))
      have BH0X := hid E23.out.size
      have E24 := hid (E23.out.trans e24)
      have WX_24 := hid (own_ext WX_23.out e24)
      have GX_24 := hid (own_ext GX_23.out e24)
      have H0X_24 := hid o24
      clear E23 WX_23 GX_23 e24 o24
      go_wp2_with fail
      refine (toCameraS_any A1 n1 c1 l1 w24 (hr1.ext (Ext.trans (by repeat (first | exact Ext.refl _ | refine Ext.alloc ?_ _ | assumption | refine Ext.over ?_ _ | refine Ext.drew ?_ | refine Ext.drewN ?_ _)) E24.out)) hl1 (by omega)).mono ?_; rintro _ w25 ⟨H1X, H1Xc, rfl, o25, e25⟩
      have NEWXH1X := hid (own_ne WX_24.out o25 (Nat.le_refl _)); have NEH1XWX := hid (own_ne' WX_24.out o25 (Nat.le_refl _))
      have NEGXH1X := hid (own_ne GX_24.out o25 (Nat.le_refl _)); have NEH1XGX := hid (own_ne' GX_24.out o25 (Nat.le_refl _))
      have NEH0XH1X := hid (own_ne H0X_24.out o25 (Nat.le_refl _)); have NEH1XH0X := hid (own_ne' H0X_24.out o25 (Nat.le_refl _))
      have BH1X := hid E24.out.size
      have E25 := hid (E24.out.trans e25)
      have WX_25 := hid (own_ext WX_24.out e25)
      have GX_25 := hid (own_ext GX_24.out e25)
      have H0X_25 := hid (own_ext H0X_24.out e25)
      have H1X_25 := hid o25
      clear E24 WX_24 GX_24 H0X_24 e25 o25
      go_wp2_with fail
      refine (iBlind_any H0X n0 H0Xc l0 H1X n1 H1Xc l1 w25 (Row.of_own H0X_25.out) hl0 (by omega) (Row.of_own H1X_25.out) hl1 (by omega)).mono ?_; rintro _ w26 ⟨HX, mh, HXc, rfl, o26, e26⟩
      have hmh := own_len2 o26; obtain rfl : mg = mh := by omega
      have NEWXHX := hid (own_ne WX_25.out o26 (Nat.le_refl _)); have NEHXWX := hid (own_ne' WX_25.out o26 (Nat.le_refl _))
      have NEGXHX := hid (own_ne GX_25.out o26 (Nat.le_refl _)); have NEHXGX := hid (own_ne' GX_25.out o26 (Nat.le_refl _))
      have NEH0XHX := hid (own_ne H0X_25.out o26 (Nat.le_refl _)); have NEHXH0X := hid (own_ne' H0X_25.out o26 (Nat.le_refl _))
      have NEH1XHX := hid (own_ne H1X_25.out o26 (Nat.le_refl _)); have NEHXH1X := hid (own_ne' H1X_25.out o26 (Nat.le_refl _))
      have BHX := hid E25.out.size
      have E26 := hid (E25.out.trans e26)
      have WX_26 := hid (own_ext WX_25.out e26)
      have GX_26 := hid (own_ext GX_25.out e26)
      have H0X_26 := hid (own_ext H0X_25.out e26)
      have H1X_26 := hid (own_ext H1X_25.out e26)
      have HX_26 := hid o26
      clear E25 WX_25 GX_25 H0X_25 H1X_25 e26 o26
      clear H0X_26
      clear H1X_26
      go_wp2_with fail
      refine (eqPointS_same HX WX mg HXc WXc (blindL l0 l1) w26 (Row.of_own HX_26.out) (Row.of_own WX_26.out) hm' (by omega)).mono ?_; rintro _ w27 ⟨rfl, e27⟩
      have E27 := hid (E26.out.trans e27)
      have WX_27 := hid (own_ext WX_26.out e27)
      have GX_27 := hid (own_ext GX_26.out e27)
      have HX_27 := hid (own_ext HX_26.out e27)
      clear E26 WX_26 GX_26 HX_26 e27
      go_wp2_with fail
      refine (heldPointS_ok GX mg GXc 1 w27 (Row.of_own GX_27.out) (by omega) (by omega) (by omega)).mono ?_; rintro _ w28 ⟨rfl, e28⟩
      have E28 := hid (E27.out.trans e28)
      have WX_28 := hid (own_ext WX_27.out e28)
      have GX_28 := hid (own_ext GX_27.out e28)
      have HX_28 := hid (own_ext HX_27.out e28)
      clear E27 WX_27 GX_27 HX_27 e28
      go_wp2_with fail
      go_ret
      exact ⟨rfl, Ext.trans (by repeat (first | exact Ext.refl _ | refine Ext.alloc ?_ _ | assumption | refine Ext.over ?_ _ | refine Ext.drew ?_ | refine Ext.drewN ?_ _)) E28.out⟩
    · (unfold Gives; go_enter Try.func6, Try.ntmps6)
      go_wp2_with fail
      refine (szRoom_ok  A0 n0 c0 (1048576) _ (by omega) (by omega)).mono ?_; rintro _ w1 ⟨rfl, e1⟩
      have E1 := hid e1
      clear e1
      have hb0 : ¬ ((((1048576 : Int) - n0) : Int) < 0) := by omega
      go_wp2_with fail
      refine (szCameraS_no  A1 n1 c1 (1048576 - n0) w1 (by omega) (by omega) (by omega) (by omega)).mono ?_; rintro _ w2 ⟨rfl, e2⟩
      have E2 := hid (E1.out.trans e2)
      clear E1 e2
      go_wp2_with fail
      go_ret
      exact ⟨rfl, Ext.trans (by repeat (first | exact Ext.refl _ | refine Ext.alloc ?_ _ | assumption | refine Ext.over ?_ _ | refine Ext.drew ?_ | refine Ext.drewN ?_ _)) E2.out⟩
  · (unfold Gives; go_enter Try.func6, Try.ntmps6)
    go_wp2_with fail
    refine (szRoom_no  A0 n0 c0 (1048576) _ (by omega) (by omega) (by omega) (by omega)).mono ?_; rintro _ w1 ⟨rfl, e1⟩
    have E1 := hid e1
    clear e1
    go_wp2_with fail
    go_ret
    exact ⟨rfl, Ext.trans (by repeat (first | exact Ext.refl _ | refine Ext.alloc ?_ _ | assumption | refine Ext.over ?_ _ | refine Ext.drew ?_ | refine Ext.drewN ?_ _)) E1.out⟩

end fnExactBlindPoints
end Go.Proofs.Ytmghngdafgebjaa
