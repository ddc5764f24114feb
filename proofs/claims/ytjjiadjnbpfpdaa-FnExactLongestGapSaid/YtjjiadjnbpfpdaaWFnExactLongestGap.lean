/- The walk of FnExactLongestGap: it returns true. Conditions: its arguments read as lists.  -/
import Derived.Test.YtjjiadjnbpfpdaaGap
import Derived.Test.YtjjiadjnbpfpdaaHelpR
import Derived.Test.YtjjiadjnbpfpdaaHer
namespace Go.Proofs.Ytjjiadjnbpfpdaa
open Go.RowKit
set_option linter.unusedVariables false
namespace fnExactLongestGap
set_option maxHeartbeats 3200000 in
set_option maxRecDepth 100000 in
theorem walk (w : World) (A0 : Option Addr) (n0 c0 : Nat) (l0 : List T2) (hr0 : Row w A0 (l0.flatMap T2.v)) (hl0 : l0.length = n0) (hn0 : n0 ≤ maxLen) (hok0 : ∀ x ∈ l0, x.ok) (A1 : Option Addr) (n1 c1 : Nat) (l1 : List T2) (hr1 : Row w A1 (l1.flatMap T2.v)) (hl1 : l1.length = n1) (hn1 : n1 ≤ maxLen) (hok1 : ∀ x ∈ l1, x.ok) (x2a : Int) (x2b : Int) (hx2a : i64r x2a) (hx2b : i64r x2b) : Gives Try.prog 4 #[.agg #[.slice A0 n0 c0], .slice A1 n1 c1, .agg #[.int .i64 x2a, .int .i64 x2b]] w (.bool true) := by
  unfold maxLen at hn0
  unfold maxLen at hn1
  by_cases hbig0 : (n0 : Int) ≤ 1048576
  · by_cases hbig1 : (n1 : Int) ≤ 1048576 - n0
    · (unfold Gives; go_enter Try.func4, Try.ntmps4)
      go_wp2_with fail
      refine (szRoom_ok  A0 n0 c0 (1048576) _ (by omega) (by omega)).mono ?_; rintro _ w1 ⟨rfl, e1⟩
      have E1 := hid e1
      clear e1
      have hb0 : ¬ ((((1048576 : Int) - n0) : Int) < 0) := by omega
      go_wp2_with fail
      refine (szPointS_ok  A1 n1 c1 (1048576 - n0) w1 (by omega) (by omega)).mono ?_; rintro _ w2 ⟨rfl, e2⟩
      have E2 := hid (E1.out.trans e2)
      clear E1 e2
      have hb1 : ¬ ((((1048576 : Int) - n0 - n1) : Int) < 0) := by omega
      obtain ⟨xw2, hxw2⟩ := E2.out.ex; subst hxw2
      go_wp2_with fail
      refine wp_region_her [true, false, true, false, true, false, false, false] (by kernel_rfl) (by kernel_rfl) ?_
      simp only [selB, notB, List.map_cons, List.map_nil, Bool.not_true, Bool.not_false]
      repeat (refine wpH_step (fun K hK => ?_); go_simp; refine hK _ ?_; clear hK K)
      refine wpH_nil ?_
      refine wpT_step (fun w3 hw3 K hK => ?_)
      have e3 := later_ext hw3; clear hw3
      have E3 := hid (E2.out.trans e3)
      clear E2 e3
      go_simp
      refine (toRoom_any A0 n0 c0 l0 w3 (hr0.ext (Ext.trans (by repeat (first | exact Ext.refl _ | refine Ext.alloc ?_ _ | assumption | refine Ext.over ?_ _ | refine Ext.drew ?_ | refine Ext.drewN ?_ _)) E3.out)) hl0 (by omega)).mono ?_; rintro _ w4 ⟨S0X, S0Xc, rfl, o4, e4⟩
      refine ⟨_, rfl, hK _ _ e4.ex ?_⟩; clear hK K
      have E4 := hid (E3.out.trans e4)
      have S0X_4 := hid o4
      clear E3 e4 o4
      refine wpT_step (fun w5 hw5 K hK => ?_)
      have e5 := later_ext hw5; clear hw5
      have E5 := hid (E4.out.trans e5)
      have S0X_5 := hid (own_ext S0X_4.out e5)
      clear E4 S0X_4 e5
      go_simp
      refine (toPointS_any A1 n1 c1 l1 w5 (hr1.ext (Ext.trans (by repeat (first | exact Ext.refl _ | refine Ext.alloc ?_ _ | assumption | refine Ext.over ?_ _ | refine Ext.drew ?_ | refine Ext.drewN ?_ _)) E5.out)) hl1 (by omega)).mono ?_; rintro _ w6 ⟨S1X, S1Xc, rfl, o6, e6⟩
      refine ⟨_, rfl, hK _ _ e6.ex ?_⟩; clear hK K
      have E6 := hid (E5.out.trans e6)
      have S0X_6 := hid (own_ext S0X_5.out e6)
      have S1X_6 := hid o6
      clear E5 S0X_5 e6 o6
      refine wpT_step (fun w7 hw7 K hK => ?_)
      have e7 := later_ext hw7; clear hw7
      have E7 := hid (E6.out.trans e7)
      have S0X_7 := hid (own_ext S0X_6.out e7)
      have S1X_7 := hid (own_ext S1X_6.out e7)
      clear E6 S0X_6 S1X_6 e7
      go_simp
      refine (toPoint_any x2a x2b w7).mono ?_; rintro _ w8 ⟨rfl, e8⟩
      refine ⟨_, rfl, hK _ _ e8.ex ?_⟩; clear hK K
      have E8 := hid (E7.out.trans e8)
      have S0X_8 := hid (own_ext S0X_7.out e8)
      have S1X_8 := hid (own_ext S1X_7.out e8)
      clear E7 S0X_7 S1X_7 e8
      refine wpT_step (fun w9 hw9 K hK => ?_)
      have e9 := later_ext hw9; clear hw9
      have E9 := hid (E8.out.trans e9)
      have S0X_9 := hid (own_ext S0X_8.out e9)
      have S1X_9 := hid (own_ext S1X_8.out e9)
      clear E8 S0X_8 S1X_8 e9
      go_simp
      refine (sGap_at S0X n0 S0Xc l0 S1X n1 S1Xc l1 x2a x2b w9 (Row.of_own S0X_9.out) hl0 (by omega) (Row.of_own S1X_9.out) hl1 (by omega)).mono ?_; rintro _ w10 ⟨rfl, e10⟩
      refine ⟨_, rfl, hK _ _ e10.ex ?_⟩; clear hK K
      have E10 := hid (E9.out.trans e10)
      have S0X_10 := hid (own_ext S0X_9.out e10)
      have S1X_10 := hid (own_ext S1X_9.out e10)
      clear E9 S0X_9 S1X_9 e10
      refine wpT_step (fun w11 hw11 K hK => ?_)
      have e11 := later_ext hw11; clear hw11
      have E11 := hid (E10.out.trans e11)
      have S0X_11 := hid (own_ext S0X_10.out e11)
      have S1X_11 := hid (own_ext S1X_10.out e11)
      clear E10 S0X_10 S1X_10 e11
      go_simp; refine hK _ _ (Ext.ex (Ext.refl w11)) ?_; clear hK K
      refine wpT_nil (fun w12 hw12 => ?_)
      have e12 := later_ext hw12; clear hw12
      have E12 := hid (E11.out.trans e12)
      have S0X_12 := hid (own_ext S0X_11.out e12)
      have S1X_12 := hid (own_ext S1X_11.out e12)
      clear E11 S0X_11 S1X_11 e12
      clear S0X_12
      clear S1X_12
      obtain ⟨xw12, hxw12⟩ := E12.out.ex; subst hxw12
      go_wp2_with fail
      refine (toRoom_any A0 n0 c0 l0 _ (hr0.ext (Ext.trans (by repeat (first | exact Ext.refl _ | refine Ext.alloc ?_ _ | assumption | refine Ext.over ?_ _ | refine Ext.drew ?_ | refine Ext.drewN ?_ _)) E12.out)) hl0 (by omega)).mono ?_; rintro _ w13 ⟨I0X, I0Xc, rfl, o13, e13⟩
      have E13 := hid (E12.out.trans e13)
      have I0X_13 := hid o13
      clear E12 e13 o13
      go_wp2_with fail
      obtain ⟨w14, hw14⟩ : ∃ w14, w14 = World.alloc w13 (.cells #[.slice I0X n0 I0Xc] 30) := ⟨_, rfl⟩
      rw [← hw14]
      have e14 : Ext w13 w14 := by rw [hw14]; repeat (first | exact Ext.refl _ | refine Ext.alloc ?_ _ | assumption | refine Ext.over ?_ _ | refine Ext.drew ?_ | refine Ext.drewN ?_ _)
      have bx0p := (show w14.cell? ⟨w13.heap.size, 0, none⟩ = some (.slice I0X n0 I0Xc) by rw [hw14]; go_simp)
      clear hw14
      have E14 := hid (E13.out.trans e14)
      have I0X_14 := hid (own_ext I0X_13.out e14)
      clear E13 I0X_13 e14
      refine (toPointS_any A1 n1 c1 l1 w14 (hr1.ext (Ext.trans (by repeat (first | exact Ext.refl _ | refine Ext.alloc ?_ _ | assumption | refine Ext.over ?_ _ | refine Ext.drew ?_ | refine Ext.drewN ?_ _)) E14.out)) hl1 (by omega)).mono ?_; rintro _ w15 ⟨I1X, I1Xc, rfl, o15, e15⟩
      have E15 := hid (E14.out.trans e15)
      have I0X_15 := hid (own_ext I0X_14.out e15)
      have I1X_15 := hid o15
      have bx0p_15 := old_cell e15 bx0p
      clear bx0p
      clear E14 I0X_14 e15 o15
      obtain ⟨xw15, hxw15⟩ := E15.out.ex; subst hxw15
      go_wp2_with fail
      refine wp_region_her [true, true, true, false, false, false] (by kernel_rfl) (by kernel_rfl) ?_
      simp only [selB, notB, List.map_cons, List.map_nil, Bool.not_true, Bool.not_false]
      repeat (refine wpH_step (fun K hK => ?_); go_simp; refine hK _ ?_; clear hK K)
      refine wpH_nil ?_
      refine wpT_step (fun w16 hw16 K hK => ?_)
      have e16 := later_ext hw16; clear hw16
      have E16 := hid (E15.out.trans e16)
      have I0X_16 := hid (own_ext I0X_15.out e16)
      have I1X_16 := hid (own_ext I1X_15.out e16)
      have bx0p_16 := old_cell e16 bx0p_15
      clear bx0p_15
      clear E15 I0X_15 I1X_15 e16
      go_simp
      refine (toPoint_any x2a x2b w16).mono ?_; rintro _ w17 ⟨rfl, e17⟩
      refine ⟨_, rfl, hK _ _ e17.ex ?_⟩; clear hK K
      have E17 := hid (E16.out.trans e17)
      have I0X_17 := hid (own_ext I0X_16.out e17)
      have I1X_17 := hid (own_ext I1X_16.out e17)
      have bx0p_17 := old_cell e17 bx0p_16
      clear bx0p_16
      clear E16 I0X_16 I1X_16 e17
      refine wpT_step (fun w18 hw18 K hK => ?_)
      have e18 := later_ext hw18; clear hw18
      have E18 := hid (E17.out.trans e18)
      have I0X_18 := hid (own_ext I0X_17.out e18)
      have I1X_18 := hid (own_ext I1X_17.out e18)
      have bx0p_18 := old_cell e18 bx0p_17
      clear bx0p_17
      clear E17 I0X_17 I1X_17 e18
      go_simp
      refine (iGap_at I0X n0 I0Xc l0 I1X n1 I1Xc l1 x2a x2b w18 (Row.of_own I0X_18.out) hl0 (by omega) (Row.of_own I1X_18.out) hl1 (by omega)).mono ?_; rintro _ w19 ⟨rfl, e19⟩
      refine ⟨_, rfl, hK _ _ e19.ex ?_⟩; clear hK K
      have E19 := hid (E18.out.trans e19)
      have I0X_19 := hid (own_ext I0X_18.out e19)
      have I1X_19 := hid (own_ext I1X_18.out e19)
      have bx0p_19 := old_cell e19 bx0p_18
      clear bx0p_18
      clear E18 I0X_18 I1X_18 e19
      refine wpT_step (fun w20 hw20 K hK => ?_)
      have e20 := later_ext hw20; clear hw20
      have E20 := hid (E19.out.trans e20)
      have I0X_20 := hid (own_ext I0X_19.out e20)
      have I1X_20 := hid (own_ext I1X_19.out e20)
      have bx0p_20 := old_cell e20 bx0p_19
      clear bx0p_19
      clear E19 I0X_19 I1X_19 e20
      go_simp; refine hK _ _ (Ext.ex (Ext.refl w20)) ?_; clear hK K
      refine wpT_nil (fun w21 hw21 => ?_)
      have e21 := later_ext hw21; clear hw21
      have E21 := hid (E20.out.trans e21)
      have I0X_21 := hid (own_ext I0X_20.out e21)
      have I1X_21 := hid (own_ext I1X_20.out e21)
      have bx0p_21 := old_cell e21 bx0p_20
      clear bx0p_20
      clear E20 I0X_20 I1X_20 e21
      obtain ⟨xw21, hxw21⟩ := E21.out.ex; subst hxw21
      go_wp2_with fail
      refine wp_region_her [true, true, false, false, false] (by kernel_rfl) (by kernel_rfl) ?_
      simp only [selB, notB, List.map_cons, List.map_nil, Bool.not_true, Bool.not_false]
      repeat (refine wpH_step (fun K hK => ?_); go_simp; refine hK _ ?_; clear hK K)
      refine wpH_nil ?_
      refine wpT_step (fun w22 hw22 K hK => ?_)
      have e22 := later_ext hw22; clear hw22
      have E22 := hid (E21.out.trans e22)
      have I0X_22 := hid (own_ext I0X_21.out e22)
      have I1X_22 := hid (own_ext I1X_21.out e22)
      have bx0p_22 := old_cell e22 bx0p_21
      clear bx0p_21
      clear E21 I0X_21 I1X_21 e22
      go_simp
      refine (toRoom_any A0 n0 c0 l0 w22 (hr0.ext (Ext.trans (by repeat (first | exact Ext.refl _ | refine Ext.alloc ?_ _ | assumption | refine Ext.over ?_ _ | refine Ext.drew ?_ | refine Ext.drewN ?_ _)) E22.out)) hl0 (by omega)).mono ?_; rintro _ w23 ⟨Q0X, Q0Xc, rfl, o23, e23⟩
      refine ⟨_, rfl, hK _ _ e23.ex ?_⟩; clear hK K
      have E23 := hid (E22.out.trans e23)
      have I0X_23 := hid (own_ext I0X_22.out e23)
      have I1X_23 := hid (own_ext I1X_22.out e23)
      have Q0X_23 := hid o23
      have bx0p_23 := old_cell e23 bx0p_22
      clear bx0p_22
      clear E22 I0X_22 I1X_22 e23 o23
      refine wpT_step (fun w24 hw24 K hK => ?_)
      have e24 := later_ext hw24; clear hw24
      have E24 := hid (E23.out.trans e24)
      have I0X_24 := hid (own_ext I0X_23.out e24)
      have I1X_24 := hid (own_ext I1X_23.out e24)
      have Q0X_24 := hid (own_ext Q0X_23.out e24)
      have bx0p_24 := old_cell e24 bx0p_23
      clear bx0p_23
      clear E23 I0X_23 I1X_23 Q0X_23 e24
      go_simp
      refine (eqRoom_same  I0X Q0X n0 I0Xc Q0Xc l0 w24 (Row.of_own I0X_24.out) (Row.of_own Q0X_24.out) hl0 (by omega)).mono ?_; rintro _ w25 ⟨rfl, e25⟩
      refine ⟨_, rfl, hK _ _ e25.ex ?_⟩; clear hK K
      have E25 := hid (E24.out.trans e25)
      have I0X_25 := hid (own_ext I0X_24.out e25)
      have I1X_25 := hid (own_ext I1X_24.out e25)
      have Q0X_25 := hid (own_ext Q0X_24.out e25)
      have bx0p_25 := old_cell e25 bx0p_24
      clear bx0p_24
      clear E24 I0X_24 I1X_24 Q0X_24 e25
      refine wpT_step (fun w26 hw26 K hK => ?_)
      have e26 := later_ext hw26; clear hw26
      have E26 := hid (E25.out.trans e26)
      have I0X_26 := hid (own_ext I0X_25.out e26)
      have I1X_26 := hid (own_ext I1X_25.out e26)
      have Q0X_26 := hid (own_ext Q0X_25.out e26)
      have bx0p_26 := old_cell e26 bx0p_25
      clear bx0p_25
      clear E25 I0X_25 I1X_25 Q0X_25 e26
      go_simp; refine hK _ _ (Ext.ex (Ext.refl w26)) ?_; clear hK K
      refine wpT_nil (fun w27 hw27 => ?_)
      have e27 := later_ext hw27; clear hw27
      have E27 := hid (E26.out.trans e27)
      have I0X_27 := hid (own_ext I0X_26.out e27)
      have I1X_27 := hid (own_ext I1X_26.out e27)
      have Q0X_27 := hid (own_ext Q0X_26.out e27)
      have bx0p_27 := old_cell e27 bx0p_26
      clear bx0p_26
      clear E26 I0X_26 I1X_26 Q0X_26 e27
      clear Q0X_27
      clear I0X_27
      go_wp2_with fail
      refine (toPointS_any A1 n1 c1 l1 w27 (hr1.ext (Ext.trans (by repeat (first | exact Ext.refl _ | refine Ext.alloc ?_ _ | assumption | refine Ext.over ?_ _ | refine Ext.drew ?_ | refine Ext.drewN ?_ _)) E27.out)) hl1 (by omega)).mono ?_; rintro _ w28 ⟨Q1X, Q1Xc, rfl, o28, e28⟩
      have E28 := hid (E27.out.trans e28)
      have I1X_28 := hid (own_ext I1X_27.out e28)
      have Q1X_28 := hid o28
      have bx0p_28 := old_cell e28 bx0p_27
      clear bx0p_27
      clear E27 I1X_27 e28 o28
      go_wp2_with fail
      refine (eqPointS_same  I1X Q1X n1 I1Xc Q1Xc l1 w28 (Row.of_own I1X_28.out) (Row.of_own Q1X_28.out) hl1 (by omega)).mono ?_; rintro _ w29 ⟨rfl, e29⟩
      have E29 := hid (E28.out.trans e29)
      have I1X_29 := hid (own_ext I1X_28.out e29)
      have Q1X_29 := hid (own_ext Q1X_28.out e29)
      have bx0p_29 := old_cell e29 bx0p_28
      clear bx0p_28
      clear E28 I1X_28 Q1X_28 e29
      clear Q1X_29
      clear I1X_29
      go_wp2_with fail
      go_ret
      exact ⟨rfl, Ext.trans (by repeat (first | exact Ext.refl _ | refine Ext.alloc ?_ _ | assumption | refine Ext.over ?_ _ | refine Ext.drew ?_ | refine Ext.drewN ?_ _)) E29.out⟩
    · (unfold Gives; go_enter Try.func4, Try.ntmps4)
      go_wp2_with fail
      refine (szRoom_ok  A0 n0 c0 (1048576) _ (by omega) (by omega)).mono ?_; rintro _ w1 ⟨rfl, e1⟩
      have E1 := hid e1
      clear e1
      have hb0 : ¬ ((((1048576 : Int) - n0) : Int) < 0) := by omega
      go_wp2_with fail
      refine (szPointS_no  A1 n1 c1 (1048576 - n0) w1 (by omega) (by omega) (by omega) (by omega)).mono ?_; rintro _ w2 ⟨rfl, e2⟩
      have E2 := hid (E1.out.trans e2)
      clear E1 e2
      go_wp2_with fail
      go_ret
      exact ⟨rfl, Ext.trans (by repeat (first | exact Ext.refl _ | refine Ext.alloc ?_ _ | assumption | refine Ext.over ?_ _ | refine Ext.drew ?_ | refine Ext.drewN ?_ _)) E2.out⟩
  · (unfold Gives; go_enter Try.func4, Try.ntmps4)
    go_wp2_with fail
    refine (szRoom_no  A0 n0 c0 (1048576) _ (by omega) (by omega) (by omega) (by omega)).mono ?_; rintro _ w1 ⟨rfl, e1⟩
    have E1 := hid e1
    clear e1
    go_wp2_with fail
    go_ret
    exact ⟨rfl, Ext.trans (by repeat (first | exact Ext.refl _ | refine Ext.alloc ?_ _ | assumption | refine Ext.over ?_ _ | refine Ext.drew ?_ | refine Ext.drewN ?_ _)) E1.out⟩

end fnExactLongestGap
end Go.Proofs.Ytjjiadjnbpfpdaa
