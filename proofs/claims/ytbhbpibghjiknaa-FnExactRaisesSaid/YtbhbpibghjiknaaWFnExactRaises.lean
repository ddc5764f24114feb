/- The walk of FnExactRaises: it returns true. Conditions: its arguments read as lists.  -/
import Derived.Test.YtbhbpibghjiknaaRaise
import Derived.Test.YtbhbpibghjiknaaHelp
import Derived.Test.YtbhbpibghjiknaaHer
namespace Go.Proofs.Ytbhbpibghjiknaa
open Go.RowKit
set_option linter.unusedVariables false
namespace fnExactRaises
set_option maxHeartbeats 3200000 in
set_option maxRecDepth 100000 in
theorem walk (w : World) (A0 : Option Addr) (n0 c0 : Nat) (l0 : List T3) (hr0 : Row w A0 (l0.flatMap T3.v)) (hl0 : l0.length = n0) (hn0 : n0 ≤ maxLen) (hok0 : ∀ x ∈ l0, x.ok) (x1a : Int) (x1b : Int) (x1c : Int) (hx1a : i64r x1a) (hx1b : i64r x1b) (hx1c : i64r x1c) : Gives Try.prog 7 #[.slice A0 n0 c0, .agg #[.int .i64 x1a, .int .i64 x1b, .int .i64 x1c]] w (.bool true) := by
  unfold maxLen at hn0
  by_cases hbig0 : (n0 : Int) ≤ 1048576
  · (unfold Gives; go_enter Try.func7, Try.ntmps7)
    go_wp2_with fail
    refine (szZoneS_ok  A0 n0 c0 (1048576) _ (by omega) (by omega)).mono ?_; rintro _ w1 ⟨rfl, e1⟩
    have E1 := hid e1
    clear e1
    have hb0 : ¬ ((((1048576 : Int) - n0) : Int) < 0) := by omega
    obtain ⟨xw1, hxw1⟩ := E1.out.ex; subst hxw1
    go_wp2_with fail
    refine wp_region_her [true, false, true, false, false, false] (by kernel_rfl) (by kernel_rfl) ?_
    simp only [selB, notB, List.map_cons, List.map_nil, Bool.not_true, Bool.not_false]
    repeat (refine wpH_step (fun K hK => ?_); go_simp; refine hK _ ?_; clear hK K)
    refine wpH_nil ?_
    refine wpT_step (fun w2 hw2 K hK => ?_)
    have e2 := later_ext hw2; clear hw2
    have E2 := hid (E1.out.trans e2)
    clear E1 e2
    go_simp
    refine (toZoneS_any A0 n0 c0 l0 w2 (hr0.ext (Ext.trans (by repeat (first | exact Ext.refl _ | refine Ext.alloc ?_ _ | assumption | refine Ext.over ?_ _ | refine Ext.drew ?_ | refine Ext.drewN ?_ _)) E2.out)) hl0 (by omega)).mono ?_; rintro _ w3 ⟨S0X, S0Xc, rfl, o3, e3⟩
    refine ⟨_, rfl, hK _ _ e3.ex ?_⟩; clear hK K
    have E3 := hid (E2.out.trans e3)
    have S0X_3 := hid o3
    clear E2 e3 o3
    refine wpT_step (fun w4 hw4 K hK => ?_)
    have e4 := later_ext hw4; clear hw4
    have E4 := hid (E3.out.trans e4)
    have S0X_4 := hid (own_ext S0X_3.out e4)
    clear E3 S0X_3 e4
    go_simp
    refine (toReport_any x1a x1b x1c w4).mono ?_; rintro _ w5 ⟨rfl, e5⟩
    refine ⟨_, rfl, hK _ _ e5.ex ?_⟩; clear hK K
    have E5 := hid (E4.out.trans e5)
    have S0X_5 := hid (own_ext S0X_4.out e5)
    clear E4 S0X_4 e5
    refine wpT_step (fun w6 hw6 K hK => ?_)
    have e6 := later_ext hw6; clear hw6
    have E6 := hid (E5.out.trans e6)
    have S0X_6 := hid (own_ext S0X_5.out e6)
    clear E5 S0X_5 e6
    go_simp
    refine (sRaises_any S0X n0 S0Xc l0 x1a x1b x1c w6 (Row.of_own S0X_6.out) hl0 (by omega)).mono ?_; rintro _ w7 ⟨rfl, e7⟩
    refine ⟨_, rfl, hK _ _ e7.ex ?_⟩; clear hK K
    have E7 := hid (E6.out.trans e7)
    have S0X_7 := hid (own_ext S0X_6.out e7)
    clear E6 S0X_6 e7
    refine wpT_step (fun w8 hw8 K hK => ?_)
    have e8 := later_ext hw8; clear hw8
    have E8 := hid (E7.out.trans e8)
    have S0X_8 := hid (own_ext S0X_7.out e8)
    clear E7 S0X_7 e8
    go_simp; refine hK _ _ (Ext.ex (Ext.refl w8)) ?_; clear hK K
    refine wpT_nil (fun w9 hw9 => ?_)
    have e9 := later_ext hw9; clear hw9
    have E9 := hid (E8.out.trans e9)
    have S0X_9 := hid (own_ext S0X_8.out e9)
    clear E8 S0X_8 e9
    clear S0X_9
    go_wp2_with fail
    refine (toZoneS_any A0 n0 c0 l0 w9 (hr0.ext (Ext.trans (by repeat (first | exact Ext.refl _ | refine Ext.alloc ?_ _ | assumption | refine Ext.over ?_ _ | refine Ext.drew ?_ | refine Ext.drewN ?_ _)) E9.out)) hl0 (by omega)).mono ?_; rintro _ w10 ⟨I0X, I0Xc, rfl, o10, e10⟩
    have E10 := hid (E9.out.trans e10)
    have I0X_10 := hid o10
    clear E9 e10 o10
    obtain ⟨xw10, hxw10⟩ := E10.out.ex; subst hxw10
    go_wp2_with fail
    refine (toReport_any x1a x1b x1c _).mono ?_; rintro _ w11 ⟨rfl, e11⟩
    have E11 := hid (E10.out.trans e11)
    have I0X_11 := hid (own_ext I0X_10.out e11)
    clear E10 I0X_10 e11
    go_wp2_with fail
    refine (iRaises_any I0X n0 I0Xc l0 x1a x1b x1c w11 (Row.of_own I0X_11.out) hl0 (by omega)).mono ?_; rintro _ w12 ⟨rfl, e12⟩
    have E12 := hid (E11.out.trans e12)
    have I0X_12 := hid (own_ext I0X_11.out e12)
    clear E11 I0X_11 e12
    go_wp2_with fail
    refine (toZoneS_any A0 n0 c0 l0 w12 (hr0.ext (Ext.trans (by repeat (first | exact Ext.refl _ | refine Ext.alloc ?_ _ | assumption | refine Ext.over ?_ _ | refine Ext.drew ?_ | refine Ext.drewN ?_ _)) E12.out)) hl0 (by omega)).mono ?_; rintro _ w13 ⟨Q0X, Q0Xc, rfl, o13, e13⟩
    have E13 := hid (E12.out.trans e13)
    have I0X_13 := hid (own_ext I0X_12.out e13)
    have Q0X_13 := hid o13
    clear E12 I0X_12 e13 o13
    go_wp2_with fail
    refine (eqZoneS_same  I0X Q0X n0 I0Xc Q0Xc l0 w13 (Row.of_own I0X_13.out) (Row.of_own Q0X_13.out) hl0 (by omega)).mono ?_; rintro _ w14 ⟨rfl, e14⟩
    have E14 := hid (E13.out.trans e14)
    have I0X_14 := hid (own_ext I0X_13.out e14)
    have Q0X_14 := hid (own_ext Q0X_13.out e14)
    clear E13 I0X_13 Q0X_13 e14
    clear Q0X_14
    clear I0X_14
    go_wp2_with fail
    go_ret
    exact ⟨rfl, Ext.trans (by repeat (first | exact Ext.refl _ | refine Ext.alloc ?_ _ | assumption | refine Ext.over ?_ _ | refine Ext.drew ?_ | refine Ext.drewN ?_ _)) E14.out⟩
  · (unfold Gives; go_enter Try.func7, Try.ntmps7)
    go_wp2_with fail
    refine (szZoneS_no  A0 n0 c0 (1048576) _ (by omega) (by omega) (by omega) (by omega)).mono ?_; rintro _ w1 ⟨rfl, e1⟩
    have E1 := hid e1
    clear e1
    go_wp2_with fail
    go_ret
    exact ⟨rfl, Ext.trans (by repeat (first | exact Ext.refl _ | refine Ext.alloc ?_ _ | assumption | refine Ext.over ?_ _ | refine Ext.drew ?_ | refine Ext.drewN ?_ _)) E1.out⟩

end fnExactRaises
end Go.Proofs.Ytbhbpibghjiknaa
