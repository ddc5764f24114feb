/- The walk of FnExactLongestCalm: it returns true. Conditions: its arguments read as lists.  -/
import Derived.Test.YtbhbpibghjiknaaCalm
import Derived.Test.YtbhbpibghjiknaaHelp
namespace Go.Proofs.Ytbhbpibghjiknaa
open Go.RowKit
set_option linter.unusedVariables false
namespace fnExactLongestCalm
set_option maxHeartbeats 3200000 in
set_option maxRecDepth 100000 in
theorem walk (w : World) (A0 : Option Addr) (n0 c0 : Nat) (l0 : List T3) (hr0 : Row w A0 (l0.flatMap T3.v)) (hl0 : l0.length = n0) (hn0 : n0 ≤ maxLen) (hok0 : ∀ x ∈ l0, x.ok) (A1 : Option Addr) (n1 c1 : Nat) (l1 : List T3) (hr1 : Row w A1 (l1.flatMap T3.v)) (hl1 : l1.length = n1) (hn1 : n1 ≤ maxLen) (hok1 : ∀ x ∈ l1, x.ok) : Gives Try.prog 15 #[.slice A0 n0 c0, .slice A1 n1 c1] w (.bool true) := by
  unfold maxLen at hn0
  unfold maxLen at hn1
  by_cases hbig0 : (n0 : Int) ≤ 1048576
  · by_cases hbig1 : (n1 : Int) ≤ 1048576 - n0
    · (unfold Gives; go_enter Try.func15, Try.ntmps15)
      go_wp2_with fail
      refine (szZoneS_ok  A0 n0 c0 (1048576) _ (by omega) (by omega)).mono ?_; rintro _ w1 ⟨rfl, e1⟩
      have E1 := hid e1
      clear e1
      have hb0 : ¬ ((((1048576 : Int) - n0) : Int) < 0) := by omega
      go_wp2_with fail
      refine (szReportS_ok  A1 n1 c1 (1048576 - n0) w1 (by omega) (by omega)).mono ?_; rintro _ w2 ⟨rfl, e2⟩
      have E2 := hid (E1.out.trans e2)
      clear E1 e2
      have hb1 : ¬ ((((1048576 : Int) - n0 - n1) : Int) < 0) := by omega
      go_wp2_with fail
      refine (toZoneS_any A0 n0 c0 l0 w2 (hr0.ext (Ext.trans (by repeat (first | exact Ext.refl _ | refine Ext.alloc ?_ _ | assumption | refine Ext.over ?_ _ | refine Ext.drew ?_ | refine Ext.drewN ?_ _)) E2.out)) hl0 (by omega)).mono ?_; rintro _ w3 ⟨S0X, S0Xc, rfl, o3, e3⟩
      have E3 := hid (E2.out.trans e3)
      have S0X_3 := hid o3
      clear E2 e3 o3
      go_wp2_with fail
      refine (toReportS_any A1 n1 c1 l1 w3 (hr1.ext (Ext.trans (by repeat (first | exact Ext.refl _ | refine Ext.alloc ?_ _ | assumption | refine Ext.over ?_ _ | refine Ext.drew ?_ | refine Ext.drewN ?_ _)) E3.out)) hl1 (by omega)).mono ?_; rintro _ w4 ⟨S1X, S1Xc, rfl, o4, e4⟩
      have E4 := hid (E3.out.trans e4)
      have S0X_4 := hid (own_ext S0X_3.out e4)
      have S1X_4 := hid o4
      clear E3 S0X_3 e4 o4
      go_wp2_with fail
      refine (sCalm_any S0X n0 S0Xc l0 S1X n1 S1Xc l1 w4 (Row.of_own S0X_4.out) hl0 (by omega) (Row.of_own S1X_4.out) hl1 (by omega)).mono ?_; rintro _ w5 ⟨rfl, e5⟩
      have E5 := hid (E4.out.trans e5)
      have S0X_5 := hid (own_ext S0X_4.out e5)
      have S1X_5 := hid (own_ext S1X_4.out e5)
      clear E4 S0X_4 S1X_4 e5
      clear S0X_5
      clear S1X_5
      go_wp2_with fail
      refine (toZoneS_any A0 n0 c0 l0 w5 (hr0.ext (Ext.trans (by repeat (first | exact Ext.refl _ | refine Ext.alloc ?_ _ | assumption | refine Ext.over ?_ _ | refine Ext.drew ?_ | refine Ext.drewN ?_ _)) E5.out)) hl0 (by omega)).mono ?_; rintro _ w6 ⟨I0X, I0Xc, rfl, o6, e6⟩
      have E6 := hid (E5.out.trans e6)
      have I0X_6 := hid o6
      clear E5 e6 o6
      go_wp2_with fail
      refine (toReportS_any A1 n1 c1 l1 w6 (hr1.ext (Ext.trans (by repeat (first | exact Ext.refl _ | refine Ext.alloc ?_ _ | assumption | refine Ext.over ?_ _ | refine Ext.drew ?_ | refine Ext.drewN ?_ _)) E6.out)) hl1 (by omega)).mono ?_; rintro _ w7 ⟨I1X, I1Xc, rfl, o7, e7⟩
      have E7 := hid (E6.out.trans e7)
      have I0X_7 := hid (own_ext I0X_6.out e7)
      have I1X_7 := hid o7
      clear E6 I0X_6 e7 o7
      go_wp2_with fail
      refine (iCalm_any I0X n0 I0Xc l0 I1X n1 I1Xc l1 w7 (Row.of_own I0X_7.out) hl0 (by omega) (Row.of_own I1X_7.out) hl1 (by omega)).mono ?_; rintro _ w8 ⟨rfl, e8⟩
      have E8 := hid (E7.out.trans e8)
      have I0X_8 := hid (own_ext I0X_7.out e8)
      have I1X_8 := hid (own_ext I1X_7.out e8)
      clear E7 I0X_7 I1X_7 e8
      go_wp2_with fail
      refine (toZoneS_any A0 n0 c0 l0 w8 (hr0.ext (Ext.trans (by repeat (first | exact Ext.refl _ | refine Ext.alloc ?_ _ | assumption | refine Ext.over ?_ _ | refine Ext.drew ?_ | refine Ext.drewN ?_ _)) E8.out)) hl0 (by omega)).mono ?_; rintro _ w9 ⟨Q0X, Q0Xc, rfl, o9, e9⟩
      have E9 := hid (E8.out.trans e9)
      have I0X_9 := hid (own_ext I0X_8.out e9)
      have I1X_9 := hid (own_ext I1X_8.out e9)
      have Q0X_9 := hid o9
      clear E8 I0X_8 I1X_8 e9 o9
      go_wp2_with fail
      refine (eqZoneS_same  I0X Q0X n0 I0Xc Q0Xc l0 w9 (Row.of_own I0X_9.out) (Row.of_own Q0X_9.out) hl0 (by omega)).mono ?_; rintro _ w10 ⟨rfl, e10⟩
      have E10 := hid (E9.out.trans e10)
      have I0X_10 := hid (own_ext I0X_9.out e10)
      have I1X_10 := hid (own_ext I1X_9.out e10)
      have Q0X_10 := hid (own_ext Q0X_9.out e10)
      clear E9 I0X_9 I1X_9 Q0X_9 e10
      clear Q0X_10
      clear I0X_10
      go_wp2_with fail
      refine (toReportS_any A1 n1 c1 l1 w10 (hr1.ext (Ext.trans (by repeat (first | exact Ext.refl _ | refine Ext.alloc ?_ _ | assumption | refine Ext.over ?_ _ | refine Ext.drew ?_ | refine Ext.drewN ?_ _)) E10.out)) hl1 (by omega)).mono ?_; rintro _ w11 ⟨Q1X, Q1Xc, rfl, o11, e11⟩
      have E11 := hid (E10.out.trans e11)
      have I1X_11 := hid (own_ext I1X_10.out e11)
      have Q1X_11 := hid o11
      clear E10 I1X_10 e11 o11
      go_wp2_with fail
      refine (eqReportS_same  I1X Q1X n1 I1Xc Q1Xc l1 w11 (Row.of_own I1X_11.out) (Row.of_own Q1X_11.out) hl1 (by omega)).mono ?_; rintro _ w12 ⟨rfl, e12⟩
      have E12 := hid (E11.out.trans e12)
      have I1X_12 := hid (own_ext I1X_11.out e12)
      have Q1X_12 := hid (own_ext Q1X_11.out e12)
      clear E11 I1X_11 Q1X_11 e12
      clear Q1X_12
      clear I1X_12
      go_wp2_with fail
      go_ret
      exact ⟨rfl, Ext.trans (by repeat (first | exact Ext.refl _ | refine Ext.alloc ?_ _ | assumption | refine Ext.over ?_ _ | refine Ext.drew ?_ | refine Ext.drewN ?_ _)) E12.out⟩
    · (unfold Gives; go_enter Try.func15, Try.ntmps15)
      go_wp2_with fail
      refine (szZoneS_ok  A0 n0 c0 (1048576) _ (by omega) (by omega)).mono ?_; rintro _ w1 ⟨rfl, e1⟩
      have E1 := hid e1
      clear e1
      have hb0 : ¬ ((((1048576 : Int) - n0) : Int) < 0) := by omega
      go_wp2_with fail
      refine (szReportS_no  A1 n1 c1 (1048576 - n0) w1 (by omega) (by omega) (by omega) (by omega)).mono ?_; rintro _ w2 ⟨rfl, e2⟩
      have E2 := hid (E1.out.trans e2)
      clear E1 e2
      go_wp2_with fail
      go_ret
      exact ⟨rfl, Ext.trans (by repeat (first | exact Ext.refl _ | refine Ext.alloc ?_ _ | assumption | refine Ext.over ?_ _ | refine Ext.drew ?_ | refine Ext.drewN ?_ _)) E2.out⟩
  · (unfold Gives; go_enter Try.func15, Try.ntmps15)
    go_wp2_with fail
    refine (szZoneS_no  A0 n0 c0 (1048576) _ (by omega) (by omega) (by omega) (by omega)).mono ?_; rintro _ w1 ⟨rfl, e1⟩
    have E1 := hid e1
    clear e1
    go_wp2_with fail
    go_ret
    exact ⟨rfl, Ext.trans (by repeat (first | exact Ext.refl _ | refine Ext.alloc ?_ _ | assumption | refine Ext.over ?_ _ | refine Ext.drew ?_ | refine Ext.drewN ?_ _)) E1.out⟩

end fnExactLongestCalm
end Go.Proofs.Ytbhbpibghjiknaa
