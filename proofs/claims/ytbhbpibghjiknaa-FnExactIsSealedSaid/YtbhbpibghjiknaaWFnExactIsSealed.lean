/- The walk of FnExactIsSealed: it returns true. Conditions: its arguments read as lists.  -/
import Derived.Test.YtbhbpibghjiknaaBroken
import Derived.Test.YtbhbpibghjiknaaHelpS
namespace Go.Proofs.Ytbhbpibghjiknaa
open Go.RowKit
set_option linter.unusedVariables false
namespace fnExactIsSealed
set_option maxHeartbeats 3200000 in
set_option maxRecDepth 100000 in
theorem walk (w : World) (A0 : Option Addr) (n0 c0 : Nat) (l0 : List EN) (hr0 : Row w A0 (l0.flatMap EN.v)) (hl0 : l0.length = n0) (hn0 : n0 ≤ maxLen) (hok0 : ∀ x ∈ l0, x.ok) : Gives Try.prog 9 #[.slice A0 n0 c0] w (.bool true) := by
  unfold maxLen at hn0
  by_cases hbig0 : (enSz l0 : Int) ≤ 1048576
  · have hge0 := enSz_ge l0
    (unfold Gives; go_enter Try.func9, Try.ntmps9)
    go_wp2_with fail
    refine (szEntryS_ok A0 n0 c0 l0 (1048576) _ (hr0.ext (by repeat (first | exact Ext.refl _ | refine Ext.alloc ?_ _ | assumption | refine Ext.over ?_ _ | refine Ext.drew ?_ | refine Ext.drewN ?_ _))) hl0 (by omega) (by omega)).mono ?_; rintro _ w1 ⟨rfl, e1⟩
    have E1 := hid e1
    clear e1
    have hb0 : ¬ ((((1048576 : Int) - enSz l0) : Int) < 0) := by omega
    go_wp2_with fail
    refine (toEntryS_any A0 n0 c0 l0 w1 (hr0.ext (Ext.trans (by repeat (first | exact Ext.refl _ | refine Ext.alloc ?_ _ | assumption | refine Ext.over ?_ _ | refine Ext.drew ?_ | refine Ext.drewN ?_ _)) E1.out)) hl0 (by omega)).mono ?_; rintro _ w2 ⟨S0X, S0Xc, rfl, o2, e2⟩
    have E2 := hid (E1.out.trans e2)
    have S0X_2 := hid o2
    clear E1 e2 o2
    go_wp2_with fail
    refine (sSealed_any S0X n0 S0Xc l0 w2 (Row.of_own S0X_2.out) hl0 (by omega) hok0).mono ?_; rintro _ w3 ⟨rfl, e3⟩
    have E3 := hid (E2.out.trans e3)
    have S0X_3 := hid (own_ext S0X_2.out e3)
    clear E2 S0X_2 e3
    clear S0X_3
    go_wp2_with fail
    refine (toEntryS_any A0 n0 c0 l0 w3 (hr0.ext (Ext.trans (by repeat (first | exact Ext.refl _ | refine Ext.alloc ?_ _ | assumption | refine Ext.over ?_ _ | refine Ext.drew ?_ | refine Ext.drewN ?_ _)) E3.out)) hl0 (by omega)).mono ?_; rintro _ w4 ⟨I0X, I0Xc, rfl, o4, e4⟩
    have E4 := hid (E3.out.trans e4)
    have I0X_4 := hid o4
    clear E3 e4 o4
    go_wp2_with fail
    refine (iSealed_any I0X n0 I0Xc l0 w4 (Row.of_own I0X_4.out) hl0 (by omega) hok0).mono ?_; rintro _ w5 ⟨rfl, e5⟩
    have E5 := hid (E4.out.trans e5)
    have I0X_5 := hid (own_ext I0X_4.out e5)
    clear E4 I0X_4 e5
    go_wp2_with fail
    refine (toEntryS_any A0 n0 c0 l0 w5 (hr0.ext (Ext.trans (by repeat (first | exact Ext.refl _ | refine Ext.alloc ?_ _ | assumption | refine Ext.over ?_ _ | refine Ext.drew ?_ | refine Ext.drewN ?_ _)) E5.out)) hl0 (by omega)).mono ?_; rintro _ w6 ⟨Q0X, Q0Xc, rfl, o6, e6⟩
    have E6 := hid (E5.out.trans e6)
    have I0X_6 := hid (own_ext I0X_5.out e6)
    have Q0X_6 := hid o6
    clear E5 I0X_5 e6 o6
    go_wp2_with fail
    refine (eqEntryS_same  I0X Q0X n0 I0Xc Q0Xc l0 w6 (Row.of_own I0X_6.out) (Row.of_own Q0X_6.out) hl0 (by omega)).mono ?_; rintro _ w7 ⟨rfl, e7⟩
    have E7 := hid (E6.out.trans e7)
    have I0X_7 := hid (own_ext I0X_6.out e7)
    have Q0X_7 := hid (own_ext Q0X_6.out e7)
    clear E6 I0X_6 Q0X_6 e7
    clear Q0X_7
    clear I0X_7
    go_wp2_with fail
    go_ret
    exact ⟨rfl, Ext.trans (by repeat (first | exact Ext.refl _ | refine Ext.alloc ?_ _ | assumption | refine Ext.over ?_ _ | refine Ext.drew ?_ | refine Ext.drewN ?_ _)) E7.out⟩
  · (unfold Gives; go_enter Try.func9, Try.ntmps9)
    go_wp2_with fail
    refine (szEntryS_no A0 n0 c0 l0 (1048576) _ (hr0.ext (by repeat (first | exact Ext.refl _ | refine Ext.alloc ?_ _ | assumption | refine Ext.over ?_ _ | refine Ext.drew ?_ | refine Ext.drewN ?_ _))) hl0 hok0 (by omega) (by omega) (by omega) (by omega)).mono ?_; rintro _ w1 ⟨rfl, e1⟩
    have E1 := hid e1
    clear e1
    go_wp2_with fail
    go_ret
    exact ⟨rfl, Ext.trans (by repeat (first | exact Ext.refl _ | refine Ext.alloc ?_ _ | assumption | refine Ext.over ?_ _ | refine Ext.drew ?_ | refine Ext.drewN ?_ _)) E1.out⟩

end fnExactIsSealed
end Go.Proofs.Ytbhbpibghjiknaa
