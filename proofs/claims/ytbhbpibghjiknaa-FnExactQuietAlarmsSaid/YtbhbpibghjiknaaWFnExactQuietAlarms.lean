/- The walk of FnExactQuietAlarms: it returns true. Conditions: its arguments read as lists.  -/
import Derived.Test.YtbhbpibghjiknaaQuietS
import Derived.Test.YtbhbpibghjiknaaHelp
namespace Go.Proofs.Ytbhbpibghjiknaa
open Go.RowKit
set_option linter.unusedVariables false
namespace fnExactQuietAlarms
set_option maxHeartbeats 3200000 in
set_option maxRecDepth 100000 in
theorem walk (w : World) (A0 : Option Addr) (n0 c0 : Nat) (l0 : List T3) (hr0 : Row w A0 (l0.flatMap T3.v)) (hl0 : l0.length = n0) (hn0 : n0 ≤ maxLen) (hok0 : ∀ x ∈ l0, x.ok) (A1 : Option Addr) (n1 c1 : Nat) (l1 : List T3) (hr1 : Row w A1 (l1.flatMap T3.v)) (hl1 : l1.length = n1) (hn1 : n1 ≤ maxLen) (hok1 : ∀ x ∈ l1, x.ok) (z2 : Int) (hz2 : i64r z2) : Gives Try.prog 13 #[.slice A0 n0 c0, .slice A1 n1 c1, .int .i64 z2] w (.bool true) := by
  unfold maxLen at hn0
  unfold maxLen at hn1
  by_cases hbig0 : (n0 : Int) ≤ 1048576
  · by_cases hbig1 : (n1 : Int) ≤ 1048576 - n0
    · have hlen : (quiets l0 l1 z2).length ≤ 8388608 := by have := quiets_len l0 l1 z2; omega
      (unfold Gives; go_enter Try.func13, Try.ntmps13)
      go_wp2_with fail
      refine (szZoneS_ok  A0 n0 c0 (1048576) _ (by omega) (by omega)).mono ?_; rintro _ w1 ⟨rfl, e1⟩
      have E1 := hid e1
      clear e1
      have hb0 : ¬ ((((1048576 : Int) - n0) : Int) < 0) := by omega
      go_wp2_with fail
      refine (szReportS_ok  A1 n1 c1 (1048576 - n0) w1 (by omega) (by omega)).mono ?_; rintro _ w2 ⟨rfl, e2⟩
      have E2 := hid (E1.out.trans e2)
      clear E1 e2
      have hb1 : ¬ ((((1048576 : Int) - n0 - n1) : Int) < 0) := by omega
      go_wp2_with fail
      refine (toZoneS_any A0 n0 c0 l0 w2 (hr0.ext (Ext.trans (by repeat (first | exact Ext.refl _ | refine Ext.alloc ?_ _ | assumption | refine Ext.over ?_ _ | refine Ext.drew ?_ | refine Ext.drewN ?_ _)) E2.out)) hl0 (by omega)).mono ?_; rintro _ w3 ⟨S0X, S0Xc, rfl, o3, e3⟩
      have BS0X := hid E2.out.size
      have E3 := hid (E2.out.trans e3)
      have S0X_3 := hid o3
      clear E2 e3 o3
      go_wp2_with fail
      refine (toReportS_any A1 n1 c1 l1 w3 (hr1.ext (Ext.trans (by repeat (first | exact Ext.refl _ | refine Ext.alloc ?_ _ | assumption | refine Ext.over ?_ _ | refine Ext.drew ?_ | refine Ext.drewN ?_ _)) E3.out)) hl1 (by omega)).mono ?_; rintro _ w4 ⟨S1X, S1Xc, rfl, o4, e4⟩
      have NES0XS1X := hid (own_ne S0X_3.out o4 (Nat.le_refl _)); have NES1XS0X := hid (own_ne' S0X_3.out o4 (Nat.le_refl _))
      have BS1X := hid E3.out.size
      have E4 := hid (E3.out.trans e4)
      have S0X_4 := hid (own_ext S0X_3.out e4)
      have S1X_4 := hid o4
      clear E3 S0X_3 e4 o4
      go_wp2_with fail
      refine (sQuiet_any S0X n0 S0Xc l0 S1X n1 S1Xc l1 z2 w4 (Row.of_own S0X_4.out) hl0 (by omega) (Row.of_own S1X_4.out) hl1 (by omega) hz2).mono ?_; rintro _ w5 ⟨WX, mw, WXc, rfl, o5, e5⟩
      have hm := own_len o5
      have NES0XWX := hid (own_ne S0X_4.out o5 (Nat.le_refl _)); have NEWXS0X := hid (own_ne' S0X_4.out o5 (Nat.le_refl _))
      have NES1XWX := hid (own_ne S1X_4.out o5 (Nat.le_refl _)); have NEWXS1X := hid (own_ne' S1X_4.out o5 (Nat.le_refl _))
      have BWX := hid E4.out.size
      have E5 := hid (E4.out.trans e5)
      have S0X_5 := hid (own_ext S0X_4.out e5)
      have S1X_5 := hid (own_ext S1X_4.out e5)
      have WX_5 := hid o5
      clear E4 S0X_4 S1X_4 e5 o5
      clear S0X_5
      clear S1X_5
      go_wp2_with fail
      refine (toZoneS_any A0 n0 c0 l0 w5 (hr0.ext (Ext.trans (by repeat (first | exact Ext.refl _ | refine Ext.alloc ?_ _ | assumption | refine Ext.over ?_ _ | refine Ext.drew ?_ | refine Ext.drewN ?_ _)) E5.out)) hl0 (by omega)).mono ?_; rintro _ w6 ⟨I0X, I0Xc, rfl, o6, e6⟩
      have NEWXI0X := hid (own_ne WX_5.out o6 (Nat.le_refl _)); have NEI0XWX := hid (own_ne' WX_5.out o6 (Nat.le_refl _))
      have BI0X := hid E5.out.size
      have E6 := hid (E5.out.trans e6)
      have WX_6 := hid (own_ext WX_5.out e6)
      have I0X_6 := hid o6
      clear E5 WX_5 e6 o6
      go_wp2_with fail
      refine (toReportS_any A1 n1 c1 l1 w6 (hr1.ext (Ext.trans (by repeat (first | exact Ext.refl _ | refine Ext.alloc ?_ _ | assumption | refine Ext.over ?_ _ | refine Ext.drew ?_ | refine Ext.drewN ?_ _)) E6.out)) hl1 (by omega)).mono ?_; rintro _ w7 ⟨I1X, I1Xc, rfl, o7, e7⟩
      have NEWXI1X := hid (own_ne WX_6.out o7 (Nat.le_refl _)); have NEI1XWX := hid (own_ne' WX_6.out o7 (Nat.le_refl _))
      have NEI0XI1X := hid (own_ne I0X_6.out o7 (Nat.le_refl _)); have NEI1XI0X := hid (own_ne' I0X_6.out o7 (Nat.le_refl _))
      have BI1X := hid E6.out.size
      have E7 := hid (E6.out.trans e7)
      have WX_7 := hid (own_ext WX_6.out e7)
      have I0X_7 := hid (own_ext I0X_6.out e7)
      have I1X_7 := hid o7
      clear E6 WX_6 I0X_6 e7 o7
      go_wp2_with fail
      refine (iQuiet_any I0X n0 I0Xc l0 I1X n1 I1Xc l1 z2 w7 (Row.of_own I0X_7.out) hl0 (by omega) (Row.of_own I1X_7.out) hl1 (by omega) hz2).mono ?_; rintro _ w8 ⟨GX, mg, GXc, rfl, o8, e8⟩
      have hm' := own_len o8; obtain rfl : mg = mw := by omega
      have NEWXGX := hid (own_ne WX_7.out o8 (Nat.le_refl _)); have NEGXWX := hid (own_ne' WX_7.out o8 (Nat.le_refl _))
      have NEI0XGX := hid (own_ne I0X_7.out o8 (Nat.le_refl _)); have NEGXI0X := hid (own_ne' I0X_7.out o8 (Nat.le_refl _))
      have NEI1XGX := hid (own_ne I1X_7.out o8 (Nat.le_refl _)); have NEGXI1X := hid (own_ne' I1X_7.out o8 (Nat.le_refl _))
      have BGX := hid E7.out.size
      have E8 := hid (E7.out.trans e8)
      have WX_8 := hid (own_ext WX_7.out e8)
      have I0X_8 := hid (own_ext I0X_7.out e8)
      have I1X_8 := hid (own_ext I1X_7.out e8)
      have GX_8 := hid o8
      clear E7 WX_7 I0X_7 I1X_7 e8 o8
      go_wp2_with fail
      refine (eqIntS_same GX WX mg GXc WXc (quiets l0 l1 z2) w8 (Row.of_own GX_8.out) (Row.of_own WX_8.out) hm' (by omega)).mono ?_; rintro _ w9 ⟨rfl, e9⟩
      have E9 := hid (E8.out.trans e9)
      have WX_9 := hid (own_ext WX_8.out e9)
      have I0X_9 := hid (own_ext I0X_8.out e9)
      have I1X_9 := hid (own_ext I1X_8.out e9)
      have GX_9 := hid (own_ext GX_8.out e9)
      clear E8 WX_8 I0X_8 I1X_8 GX_8 e9
      go_wp2_with fail
      refine (toZoneS_any A0 n0 c0 l0 w9 (hr0.ext (Ext.trans (by repeat (first | exact Ext.refl _ | refine Ext.alloc ?_ _ | assumption | refine Ext.over ?_ _ | refine Ext.drew ?_ | refine Ext.drewN ?_ _)) E9.out)) hl0 (by omega)).mono ?_; rintro _ w10 ⟨Q0X, Q0Xc, rfl, o10, e10⟩
      have NEWXQ0X := hid (own_ne WX_9.out o10 (Nat.le_refl _)); have NEQ0XWX := hid (own_ne' WX_9.out o10 (Nat.le_refl _))
      have NEI0XQ0X := hid (own_ne I0X_9.out o10 (Nat.le_refl _)); have NEQ0XI0X := hid (own_ne' I0X_9.out o10 (Nat.le_refl _))
      have NEI1XQ0X := hid (own_ne I1X_9.out o10 (Nat.le_refl _)); have NEQ0XI1X := hid (own_ne' I1X_9.out o10 (Nat.le_refl _))
      have NEGXQ0X := hid (own_ne GX_9.out o10 (Nat.le_refl _)); have NEQ0XGX := hid (own_ne' GX_9.out o10 (Nat.le_refl _))
      have BQ0X := hid E9.out.size
      have E10 := hid (E9.out.trans e10)
      have WX_10 := hid (own_ext WX_9.out e10)
      have I0X_10 := hid (own_ext I0X_9.out e10)
      have I1X_10 := hid (own_ext I1X_9.out e10)
      have GX_10 := hid (own_ext GX_9.out e10)
      have Q0X_10 := hid o10
      clear E9 WX_9 I0X_9 I1X_9 GX_9 e10 o10
      go_wp2_with fail
      refine (eqZoneS_same  I0X Q0X n0 I0Xc Q0Xc l0 w10 (Row.of_own I0X_10.out) (Row.of_own Q0X_10.out) hl0 (by omega)).mono ?_; rintro _ w11 ⟨rfl, e11⟩
      have E11 := hid (E10.out.trans e11)
      have WX_11 := hid (own_ext WX_10.out e11)
      have I0X_11 := hid (own_ext I0X_10.out e11)
      have I1X_11 := hid (own_ext I1X_10.out e11)
      have GX_11 := hid (own_ext GX_10.out e11)
      have Q0X_11 := hid (own_ext Q0X_10.out e11)
      clear E10 WX_10 I0X_10 I1X_10 GX_10 Q0X_10 e11
      clear Q0X_11
      go_wp2_with fail
      refine (toReportS_any A1 n1 c1 l1 w11 (hr1.ext (Ext.trans (by repeat (first | exact Ext.refl _ | refine Ext.alloc ?_ _ | assumption | refine Ext.over ?_ _ | refine Ext.drew ?_ | refine Ext.drewN ?_ _)) E11.out)) hl1 (by omega)).mono ?_; rintro _ w12 ⟨Q1X, Q1Xc, rfl, o12, e12⟩
      have NEWXQ1X := hid (own_ne WX_11.out o12 (Nat.le_refl _)); have NEQ1XWX := hid (own_ne' WX_11.out o12 (Nat.le_refl _))
      have NEI0XQ1X := hid (own_ne I0X_11.out o12 (Nat.le_refl _)); have NEQ1XI0X := hid (own_ne' I0X_11.out o12 (Nat.le_refl _))
      have NEI1XQ1X := hid (own_ne I1X_11.out o12 (Nat.le_refl _)); have NEQ1XI1X := hid (own_ne' I1X_11.out o12 (Nat.le_refl _))
      have NEGXQ1X := hid (own_ne GX_11.out o12 (Nat.le_refl _)); have NEQ1XGX := hid (own_ne' GX_11.out o12 (Nat.le_refl _))
      have BQ1X := hid E11.out.size
      have E12 := hid (E11.out.trans e12)
      have WX_12 := hid (own_ext WX_11.out e12)
      have I0X_12 := hid (own_ext I0X_11.out e12)
      have I1X_12 := hid (own_ext I1X_11.out e12)
      have GX_12 := hid (own_ext GX_11.out e12)
      have Q1X_12 := hid o12
      clear E11 WX_11 I0X_11 I1X_11 GX_11 e12 o12
      go_wp2_with fail
      refine (eqReportS_same  I1X Q1X n1 I1Xc Q1Xc l1 w12 (Row.of_own I1X_12.out) (Row.of_own Q1X_12.out) hl1 (by omega)).mono ?_; rintro _ w13 ⟨rfl, e13⟩
      have E13 := hid (E12.out.trans e13)
      have WX_13 := hid (own_ext WX_12.out e13)
      have I0X_13 := hid (own_ext I0X_12.out e13)
      have I1X_13 := hid (own_ext I1X_12.out e13)
      have GX_13 := hid (own_ext GX_12.out e13)
      have Q1X_13 := hid (own_ext Q1X_12.out e13)
      clear E12 WX_12 I0X_12 I1X_12 GX_12 Q1X_12 e13
      clear Q1X_13
      go_wp2_with fail
      refine (markZoneS_any  I0X n0 I0Xc _ _ (1) w13 I0X_13.out (by omega) (by omega) (by omega)).mono ?_; rintro _ w14 ⟨rfl, g14, s14, o14⟩
      have E14 := hid (grown_ext E13.out I0X_13.out BI0X.out g14)
      have WX_14 := hid (WX_13.out.kept g14 NEWXI0X.out)
      have I0X_14 := hid o14
      have I1X_14 := hid (I1X_13.out.kept g14 NEI1XI0X.out)
      have GX_14 := hid (GX_13.out.kept g14 NEGXI0X.out)
      clear E13 WX_13 I0X_13 I1X_13 GX_13 g14 s14 o14
      clear I0X_14
      go_wp2_with fail
      refine (markReportS_any  I1X n1 I1Xc _ _ (1 + 3 * n0) w14 I1X_14.out (by omega) (by omega) (by omega)).mono ?_; rintro _ w15 ⟨rfl, g15, s15, o15⟩
      have E15 := hid (grown_ext E14.out I1X_14.out BI1X.out g15)
      have WX_15 := hid (WX_14.out.kept g15 NEWXI1X.out)
      have I1X_15 := hid o15
      have GX_15 := hid (GX_14.out.kept g15 NEGXI1X.out)
      clear E14 WX_14 I1X_14 GX_14 g15 s15 o15
      clear I1X_15
      have hk : ¬ ((((1 : Int) + 3 * n0 + 3 * n1) : Int) < 0) := by omega
      go_wp2_with fail
      refine (eqIntS_same GX WX mg GXc WXc (quiets l0 l1 z2) w15 (Row.of_own GX_15.out) (Row.of_own WX_15.out) hm' (by omega)).mono ?_; rintro _ w16 ⟨rfl, e16⟩
      have E16 := hid (E15.out.trans e16)
      have WX_16 := hid (own_ext WX_15.out e16)
      have GX_16 := hid (own_ext GX_15.out e16)
      clear E15 WX_15 GX_15 e16
      go_wp2_with fail
      refine (markIntS_any GX mg GXc _ _ 1 w16 GX_16.out (by omega) (by omega) (by omega)).mono ?_; rintro _ w17 ⟨rfl, g17, s17, o17⟩
      have E17 := hid (grown_ext E16.out GX_16.out BGX.out g17)
      have WX_17 := hid (WX_16.out.kept g17 NEWXGX.out)
      have GX_17 := hid o17
      clear E16 WX_16 GX_16 g17 s17 o17
      go_wp2_with fail
      refine (heldIntS_ok GX mg GXc 1 w17 (Row.of_own GX_17.out) (by omega) (by omega) (by omega)).mono ?_; rintro _ w18 ⟨rfl, e18⟩
      have E18 := hid (E17.out.trans e18)
      have WX_18 := hid (own_ext WX_17.out e18)
      have GX_18 := hid (own_ext GX_17.out e18)
      clear E17 WX_17 GX_17 e18
      have hq : ¬ ((1 : Int) + mg < 0) := by omega
      go_wp2_with fail
      refine (toZoneS_any A0 n0 c0 l0 w18 (hr0.ext (Ext.trans (by repeat (first | exact Ext.refl _ | refine Ext.alloc ?_ _ | assumption | refine Ext.over ?_ _ | refine Ext.drew ?_ | refine Ext.drewN ?_ _)) E18.out)) hl0 (by omega)).mono ?_; rintro _ w19 ⟨H0X, H0Xc, rfl, o19, e19⟩
      have NEWXH0X := hid (own_ne WX_18.out o19 (Nat.le_refl _)); have NEH0XWX := hid (own_ne' WX_18.out o19 (Nat.le_refl _))
      have NEGXH0X := hid (own_ne GX_18.out o19 (Nat.le_refl _)); have NEH0XGX := hid (own_ne' GX_18.out o19 (Nat.le_refl _))
      have BH0X := hid E18.out.size
      have E19 := hid (E18.out.trans e19)
      have WX_19 := hid (own_ext WX_18.out e19)
      have GX_19 := hid (own_ext GX_18.out e19)
      have H0X_19 := hid o19
      clear E18 WX_18 GX_18 e19 o19
      go_wp2_with fail
      refine (toReportS_any A1 n1 c1 l1 w19 (hr1.ext (Ext.trans (by repeat (first | exact Ext.refl _ | refine Ext.alloc ?_ _ | assumption | refine Ext.over ?_ _ | refine Ext.drew ?_ | refine Ext.drewN ?_ _)) E19.out)) hl1 (by omega)).mono ?_; rintro _ w20 ⟨H1X, H1Xc, rfl, o20, e20⟩
      have NEWXH1X := hid (own_ne WX_19.out o20 (Nat.le_refl _)); have NEH1XWX := hid (own_ne' WX_19.out o20 (Nat.le_refl _))
      have NEGXH1X := hid (own_ne GX_19.out o20 (Nat.le_refl _)); have NEH1XGX := hid (own_ne' GX_19.out o20 (Nat.le_refl _))
      have NEH0XH1X := hid (own_ne H0X_19.out o20 (Nat.le_refl _)); have NEH1XH0X := hid (own_ne' H0X_19.out o20 (Nat.le_refl _))
      have BH1X := hid E19.out.size
      have E20 := hid (E19.out.trans e20)
      have WX_20 := hid (own_ext WX_19.out e20)
      have GX_20 := hid (own_ext GX_19.out e20)
      have H0X_20 := hid (own_ext H0X_19.out e20)
      have H1X_20 := hid o20
      clear E19 WX_19 GX_19 H0X_19 e20 o20
      go_wp2_with fail
      refine (iQuiet_any H0X n0 H0Xc l0 H1X n1 H1Xc l1 z2 w20 (Row.of_own H0X_20.out) hl0 (by omega) (Row.of_own H1X_20.out) hl1 (by omega) hz2).mono ?_; rintro _ w21 ⟨HX, mh, HXc, rfl, o21, e21⟩
      have hmh := own_len o21; obtain rfl : mg = mh := by omega
      have NEWXHX := hid (own_ne WX_20.out o21 (Nat.le_refl _)); have NEHXWX := hid (own_ne' WX_20.out o21 (Nat.le_refl _))
      have NEGXHX := hid (own_ne GX_20.out o21 (Nat.le_refl _)); have NEHXGX := hid (own_ne' GX_20.out o21 (Nat.le_refl _))
      have NEH0XHX := hid (own_ne H0X_20.out o21 (Nat.le_refl _)); have NEHXH0X := hid (own_ne' H0X_20.out o21 (Nat.le_refl _))
      have NEH1XHX := hid (own_ne H1X_20.out o21 (Nat.le_refl _)); have NEHXH1X := hid (own_ne' H1X_20.out o21 (Nat.le_refl _))
      have BHX := hid E20.out.size
      have E21 := hid (E20.out.trans e21)
      have WX_21 := hid (own_ext WX_20.out e21)
      have GX_21 := hid (own_ext GX_20.out e21)
      have H0X_21 := hid (own_ext H0X_20.out e21)
      have H1X_21 := hid (own_ext H1X_20.out e21)
      have HX_21 := hid o21
      clear E20 WX_20 GX_20 H0X_20 H1X_20 e21 o21
      clear H0X_21
      clear H1X_21
      go_wp2_with fail
      refine (eqIntS_same HX WX mg HXc WXc (quiets l0 l1 z2) w21 (Row.of_own HX_21.out) (Row.of_own WX_21.out) hm' (by omega)).mono ?_; rintro _ w22 ⟨rfl, e22⟩
      have E22 := hid (E21.out.trans e22)
      have WX_22 := hid (own_ext WX_21.out e22)
      have GX_22 := hid (own_ext GX_21.out e22)
      have HX_22 := hid (own_ext HX_21.out e22)
      clear E21 WX_21 GX_21 HX_21 e22
      go_wp2_with fail
      refine (heldIntS_ok GX mg GXc 1 w22 (Row.of_own GX_22.out) (by omega) (by omega) (by omega)).mono ?_; rintro _ w23 ⟨rfl, e23⟩
      have E23 := hid (E22.out.trans e23)
      have WX_23 := hid (own_ext WX_22.out e23)
      have GX_23 := hid (own_ext GX_22.out e23)
      have HX_23 := hid (own_ext HX_22.out e23)
      clear E22 WX_22 GX_22 HX_22 e23
      go_wp2_with fail
      go_ret
      exact ⟨rfl, Ext.trans (by repeat (first | exact Ext.refl _ | refine Ext.alloc ?_ _ | assumption | refine Ext.over ?_ _ | refine Ext.drew ?_ | refine Ext.drewN ?_ _)) E23.out⟩
    · (unfold Gives; go_enter Try.func13, Try.ntmps13)
      go_wp2_with fail
      refine (szZoneS_ok  A0 n0 c0 (1048576) _ (by omega) (by omega)).mono ?_; rintro _ w1 ⟨rfl, e1⟩
      have E1 := hid e1
      clear e1
      have hb0 : ¬ ((((1048576 : Int) - n0) : Int) < 0) := by omega
      go_wp2_with fail
      refine (szReportS_no  A1 n1 c1 (1048576 - n0) w1 (by omega) (by omega) (by omega) (by omega)).mono ?_; rintro _ w2 ⟨rfl, e2⟩
      have E2 := hid (E1.out.trans e2)
      clear E1 e2
      go_wp2_with fail
      go_ret
      exact ⟨rfl, Ext.trans (by repeat (first | exact Ext.refl _ | refine Ext.alloc ?_ _ | assumption | refine Ext.over ?_ _ | refine Ext.drew ?_ | refine Ext.drewN ?_ _)) E2.out⟩
  · (unfold Gives; go_enter Try.func13, Try.ntmps13)
    go_wp2_with fail
    refine (szZoneS_no  A0 n0 c0 (1048576) _ (by omega) (by omega) (by omega) (by omega)).mono ?_; rintro _ w1 ⟨rfl, e1⟩
    have E1 := hid e1
    clear e1
    go_wp2_with fail
    go_ret
    exact ⟨rfl, Ext.trans (by repeat (first | exact Ext.refl _ | refine Ext.alloc ?_ _ | assumption | refine Ext.over ?_ _ | refine Ext.drew ?_ | refine Ext.drewN ?_ _)) E1.out⟩

end fnExactQuietAlarms
end Go.Proofs.Ytbhbpibghjiknaa
