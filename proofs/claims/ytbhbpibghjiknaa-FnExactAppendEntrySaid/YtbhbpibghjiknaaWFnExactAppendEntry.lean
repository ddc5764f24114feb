/- The walk of FnExactAppendEntry: it returns true. Conditions: its arguments read as lists.  -/
import Derived.Test.YtbhbpibghjiknaaAppend
import Derived.Test.YtbhbpibghjiknaaHelpS
import Derived.Test.YtbhbpibghjiknaaText
namespace Go.Proofs.Ytbhbpibghjiknaa
open Go.RowKit
set_option linter.unusedVariables false
namespace fnExactAppendEntry
set_option maxHeartbeats 3200000 in
set_option maxRecDepth 100000 in
theorem walk (w : World) (A0 : Option Addr) (n0 c0 : Nat) (l0 : List EN) (hr0 : Row w A0 (l0.flatMap EN.v)) (hl0 : l0.length = n0) (hn0 : n0 ≤ maxLen) (hok0 : ∀ x ∈ l0, x.ok) (z1 : Int) (hz1 : i64r z1) (s2 : ByteArray) (hs2 : s2.size ≤ 9223372036854775807) : Gives Try.prog 12 #[.slice A0 n0 c0, .int .i64 z1, .string s2] w (.bool true) := by
  unfold maxLen at hn0
  by_cases hbig2 : (s2.size : Int) ≤ 1048576
  · by_cases hbig0 : (enSz l0 : Int) ≤ 1048576
    · have hge0 := enSz_ge l0
      have hlen : (appTo l0 z1 s2).length ≤ 8388608 := by have := appTo_len l0 z1 s2; omega
      (unfold Gives; go_enter Try.func12, Try.ntmps12)
      go_wp2_with fail
      refine (szEntryS_ok A0 n0 c0 l0 (1048576) _ (hr0.ext (by repeat (first | exact Ext.refl _ | refine Ext.alloc ?_ _ | assumption | refine Ext.over ?_ _ | refine Ext.drew ?_ | refine Ext.drewN ?_ _))) hl0 (by omega) (by omega)).mono ?_; rintro _ w1 ⟨rfl, e1⟩
      have E1 := hid e1
      clear e1
      have hb0 : ¬ ((((1048576 : Int) - enSz l0) : Int) < 0) := by omega
      go_wp2_with fail
      refine (toEntryS_any A0 n0 c0 l0 w1 (hr0.ext (Ext.trans (by repeat (first | exact Ext.refl _ | refine Ext.alloc ?_ _ | assumption | refine Ext.over ?_ _ | refine Ext.drew ?_ | refine Ext.drewN ?_ _)) E1.out)) hl0 (by omega)).mono ?_; rintro _ w2 ⟨S0X, S0Xc, rfl, o2, e2⟩
      have BS0X := hid E1.out.size
      have E2 := hid (E1.out.trans e2)
      have S0X_2 := hid o2
      clear E1 e2 o2
      go_wp2_with fail
      refine (sAppend_any S0X n0 S0Xc l0 z1 s2 w2 (Row.of_own S0X_2.out) hl0 (by omega) hz1 hs2 hok0 (own_none S0X_2.out)).mono ?_; rintro _ w3 ⟨WX, mw, WXc, rfl, o3, e3⟩
      have hm := own_lenEN o3
      have NES0XWX := hid (own_ne S0X_2.out o3 (Nat.le_refl _)); have NEWXS0X := hid (own_ne' S0X_2.out o3 (Nat.le_refl _))
      have BWX := hid E2.out.size
      have E3 := hid (E2.out.trans e3)
      have S0X_3 := hid (own_ext S0X_2.out e3)
      have WX_3 := hid o3
      clear E2 S0X_2 e3 o3
      clear S0X_3
      go_wp2_with fail
      refine (toEntryS_any A0 n0 c0 l0 w3 (hr0.ext (Ext.trans (by repeat (first | exact Ext.refl _ | refine Ext.alloc ?_ _ | assumption | refine Ext.over ?_ _ | refine Ext.drew ?_ | refine Ext.drewN ?_ _)) E3.out)) hl0 (by omega)).mono ?_; rintro _ w4 ⟨I0X, I0Xc, rfl, o4, e4⟩
      have NEWXI0X := hid (own_ne WX_3.out o4 (Nat.le_refl _)); have NEI0XWX := hid (own_ne' WX_3.out o4 (Nat.le_refl _))
      have BI0X := hid E3.out.size
      have E4 := hid (E3.out.trans e4)
      have WX_4 := hid (own_ext WX_3.out e4)
      have I0X_4 := hid o4
      clear E3 WX_3 e4 o4
      go_wp2_with fail
      refine (iAppend_any I0X n0 I0Xc l0 z1 s2 w4 (Row.of_own I0X_4.out) hl0 (by omega) hz1 hs2 hok0 (own_none I0X_4.out)).mono ?_; rintro _ w5 ⟨GX, mg, GXc, rfl, o5, e5⟩
      have hm' := own_lenEN o5; obtain rfl : mg = mw := by omega
      have NEWXGX := hid (own_ne WX_4.out o5 (Nat.le_refl _)); have NEGXWX := hid (own_ne' WX_4.out o5 (Nat.le_refl _))
      have NEI0XGX := hid (own_ne I0X_4.out o5 (Nat.le_refl _)); have NEGXI0X := hid (own_ne' I0X_4.out o5 (Nat.le_refl _))
      have BGX := hid E4.out.size
      have E5 := hid (E4.out.trans e5)
      have WX_5 := hid (own_ext WX_4.out e5)
      have I0X_5 := hid (own_ext I0X_4.out e5)
      have GX_5 := hid o5
      clear E4 WX_4 I0X_4 e5 o5
      go_wp2_with fail
      refine (eqEntryS_same GX WX mg GXc WXc (appTo l0 z1 s2) w5 (Row.of_own GX_5.out) (Row.of_own WX_5.out) hm' (by omega)).mono ?_; rintro _ w6 ⟨rfl, e6⟩
      have E6 := hid (E5.out.trans e6)
      have WX_6 := hid (own_ext WX_5.out e6)
      have I0X_6 := hid (own_ext I0X_5.out e6)
      have GX_6 := hid (own_ext GX_5.out e6)
      clear E5 WX_5 I0X_5 GX_5 e6
      go_wp2_with fail
      refine (toEntryS_any A0 n0 c0 l0 w6 (hr0.ext (Ext.trans (by repeat (first | exact Ext.refl _ | refine Ext.alloc ?_ _ | assumption | refine Ext.over ?_ _ | refine Ext.drew ?_ | refine Ext.drewN ?_ _)) E6.out)) hl0 (by omega)).mono ?_; rintro _ w7 ⟨Q0X, Q0Xc, rfl, o7, e7⟩
      have NEWXQ0X := hid (own_ne WX_6.out o7 (Nat.le_refl _)); have NEQ0XWX := hid (own_ne' WX_6.out o7 (Nat.le_refl _))
      have NEI0XQ0X := hid (own_ne I0X_6.out o7 (Nat.le_refl _)); have NEQ0XI0X := hid (own_ne' I0X_6.out o7 (Nat.le_refl _))
      have NEGXQ0X := hid (own_ne GX_6.out o7 (Nat.le_refl _)); have NEQ0XGX := hid (own_ne' GX_6.out o7 (Nat.le_refl _))
      have BQ0X := hid E6.out.size
      have E7 := hid (E6.out.trans e7)
      have WX_7 := hid (own_ext WX_6.out e7)
      have I0X_7 := hid (own_ext I0X_6.out e7)
      have GX_7 := hid (own_ext GX_6.out e7)
      have Q0X_7 := hid o7
      clear E6 WX_6 I0X_6 GX_6 e7 o7
      go_wp2_with fail
      refine (eqEntryS_same  I0X Q0X n0 I0Xc Q0Xc l0 w7 (Row.of_own I0X_7.out) (Row.of_own Q0X_7.out) hl0 (by omega)).mono ?_; rintro _ w8 ⟨rfl, e8⟩
      have E8 := hid (E7.out.trans e8)
      have WX_8 := hid (own_ext WX_7.out e8)
      have I0X_8 := hid (own_ext I0X_7.out e8)
      have GX_8 := hid (own_ext GX_7.out e8)
      have Q0X_8 := hid (own_ext Q0X_7.out e8)
      clear E7 WX_7 I0X_7 GX_7 Q0X_7 e8
      clear Q0X_8
      go_wp2_with fail
      refine (markEntryS_any  I0X n0 I0Xc _ _ (1) w8 I0X_8.out (by omega) (by omega) (by omega)).mono ?_; rintro _ w9 ⟨rfl, g9, s9, o9⟩
      have E9 := hid (grown_ext E8.out I0X_8.out BI0X.out g9)
      have WX_9 := hid (WX_8.out.kept g9 NEWXI0X.out)
      have I0X_9 := hid o9
      have GX_9 := hid (GX_8.out.kept g9 NEGXI0X.out)
      clear E8 WX_8 I0X_8 GX_8 g9 s9 o9
      clear I0X_9
      have hk : ¬ ((((1 : Int) + 3 * n0) : Int) < 0) := by omega
      go_wp2_with fail
      refine (eqEntryS_same GX WX mg GXc WXc (appTo l0 z1 s2) w9 (Row.of_own GX_9.out) (Row.of_own WX_9.out) hm' (by omega)).mono ?_; rintro _ w10 ⟨rfl, e10⟩
      have E10 := hid (E9.out.trans e10)
      have WX_10 := hid (own_ext WX_9.out e10)
      have GX_10 := hid (own_ext GX_9.out e10)
      clear E9 WX_9 GX_9 e10
      go_wp2_with fail
      refine (markEntryS_any GX mg GXc _ _ 1 w10 GX_10.out (by omega) (by omega) (by omega)).mono ?_; rintro _ w11 ⟨rfl, g11, s11, o11⟩
      have E11 := hid (grown_ext E10.out GX_10.out BGX.out g11)
      have WX_11 := hid (WX_10.out.kept g11 NEWXGX.out)
      have GX_11 := hid o11
      clear E10 WX_10 GX_10 g11 s11 o11
      go_wp2_with fail
      refine (heldEntryS_ok GX mg GXc 1 w11 (Row.of_own GX_11.out) (by omega) (by omega) (by omega)).mono ?_; rintro _ w12 ⟨rfl, e12⟩
      have E12 := hid (E11.out.trans e12)
      have WX_12 := hid (own_ext WX_11.out e12)
      have GX_12 := hid (own_ext GX_11.out e12)
      clear E11 WX_11 GX_11 e12
      have hq : ¬ ((1 : Int) + 3 * mg < 0) := by omega
      go_wp2_with fail
      refine (toEntryS_any A0 n0 c0 l0 w12 (hr0.ext (Ext.trans (by repeat (first | exact Ext.refl _ | refine Ext.alloc ?_ _ | assumption | refine Ext.over ?_ _ | refine Ext.drew ?_ | refine Ext.drewN ?_ _)) E12.out)) hl0 (by omega)).mono ?_; rintro _ w13 ⟨H0X, H0Xc, rfl, o13, e13⟩
      have NEWXH0X := hid (own_ne WX_12.out o13 (Nat.le_refl _)); have NEH0XWX := hid (own_ne' WX_12.out o13 (Nat.le_refl _))
      have NEGXH0X := hid (own_ne GX_12.out o13 (Nat.le_refl _)); have NEH0XGX := hid (own_ne' GX_12.out o13 (Nat.le_refl _))
      have BH0X := hid E12.out.size
      have E13 := hid (E12.out.trans e13)
      have WX_13 := hid (own_ext WX_12.out e13)
      have GX_13 := hid (own_ext GX_12.out e13)
      have H0X_13 := hid o13
      clear E12 WX_12 GX_12 e13 o13
      go_wp2_with fail
      refine (iAppend_any H0X n0 H0Xc l0 z1 s2 w13 (Row.of_own H0X_13.out) hl0 (by omega) hz1 hs2 hok0 (own_none H0X_13.out)).mono ?_; rintro _ w14 ⟨HX, mh, HXc, rfl, o14, e14⟩
      have hmh := own_lenEN o14; obtain rfl : mg = mh := by omega
      have NEWXHX := hid (own_ne WX_13.out o14 (Nat.le_refl _)); have NEHXWX := hid (own_ne' WX_13.out o14 (Nat.le_refl _))
      have NEGXHX := hid (own_ne GX_13.out o14 (Nat.le_refl _)); have NEHXGX := hid (own_ne' GX_13.out o14 (Nat.le_refl _))
      have NEH0XHX := hid (own_ne H0X_13.out o14 (Nat.le_refl _)); have NEHXH0X := hid (own_ne' H0X_13.out o14 (Nat.le_refl _))
      have BHX := hid E13.out.size
      have E14 := hid (E13.out.trans e14)
      have WX_14 := hid (own_ext WX_13.out e14)
      have GX_14 := hid (own_ext GX_13.out e14)
      have H0X_14 := hid (own_ext H0X_13.out e14)
      have HX_14 := hid o14
      clear E13 WX_13 GX_13 H0X_13 e14 o14
      clear H0X_14
      go_wp2_with fail
      refine (eqEntryS_same HX WX mg HXc WXc (appTo l0 z1 s2) w14 (Row.of_own HX_14.out) (Row.of_own WX_14.out) hm' (by omega)).mono ?_; rintro _ w15 ⟨rfl, e15⟩
      have E15 := hid (E14.out.trans e15)
      have WX_15 := hid (own_ext WX_14.out e15)
      have GX_15 := hid (own_ext GX_14.out e15)
      have HX_15 := hid (own_ext HX_14.out e15)
      clear E14 WX_14 GX_14 HX_14 e15
      go_wp2_with fail
      refine (heldEntryS_ok GX mg GXc 1 w15 (Row.of_own GX_15.out) (by omega) (by omega) (by omega)).mono ?_; rintro _ w16 ⟨rfl, e16⟩
      have E16 := hid (E15.out.trans e16)
      have WX_16 := hid (own_ext WX_15.out e16)
      have GX_16 := hid (own_ext GX_15.out e16)
      have HX_16 := hid (own_ext HX_15.out e16)
      clear E15 WX_15 GX_15 HX_15 e16
      go_wp2_with fail
      go_ret
      exact ⟨rfl, Ext.trans (by repeat (first | exact Ext.refl _ | refine Ext.alloc ?_ _ | assumption | refine Ext.over ?_ _ | refine Ext.drew ?_ | refine Ext.drewN ?_ _)) E16.out⟩
    · (unfold Gives; go_enter Try.func12, Try.ntmps12)
      go_wp2_with fail
      refine (szEntryS_no A0 n0 c0 l0 (1048576) _ (hr0.ext (by repeat (first | exact Ext.refl _ | refine Ext.alloc ?_ _ | assumption | refine Ext.over ?_ _ | refine Ext.drew ?_ | refine Ext.drewN ?_ _))) hl0 hok0 (by omega) (by omega) (by omega) (by omega)).mono ?_; rintro _ w1 ⟨rfl, e1⟩
      have E1 := hid e1
      clear e1
      go_wp2_with fail
      go_ret
      exact ⟨rfl, Ext.trans (by repeat (first | exact Ext.refl _ | refine Ext.alloc ?_ _ | assumption | refine Ext.over ?_ _ | refine Ext.drew ?_ | refine Ext.drewN ?_ _)) E1.out⟩
  · (unfold Gives; go_enter Try.func12, Try.ntmps12)
    go_wp2_with fail
    go_ret
    refine ⟨rfl, ?_⟩; repeat (first | exact Ext.refl _ | refine Ext.alloc ?_ _ | assumption | refine Ext.over ?_ _ | refine Ext.drew ?_ | refine Ext.drewN ?_ _)

end fnExactAppendEntry
end Go.Proofs.Ytbhbpibghjiknaa
