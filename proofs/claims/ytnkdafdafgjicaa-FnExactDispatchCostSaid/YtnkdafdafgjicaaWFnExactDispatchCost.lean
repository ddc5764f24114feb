/- The walk of FnExactDispatchCost: it returns true. Conditions: its arguments read as lists.  -/
import Derived.Test.YtnkdafdafgjicaaDispatchS
import Derived.Test.YtnkdafdafgjicaaHelpH
import Derived.Test.YtnkdafdafgjicaaHelpI
import Derived.Test.YtnkdafdafgjicaaHer
namespace Go.Proofs.Ytnkdafdafgjicaa
open Go.RowKit
set_option linter.unusedVariables false
namespace fnExactDispatchCost
set_option maxHeartbeats 3200000 in
set_option maxRecDepth 100000 in
theorem walk (w : World) (q0 : Int) (hq0 : i64r q0) (A0 : Option Addr) (n0 c0 : Nat) (l0 : List T2) (hr0 : Row w A0 (l0.flatMap T2.v)) (hl0 : l0.length = n0) (hn0 : n0 ≤ maxLen) (hok0 : ∀ x ∈ l0, x.ok) (A1 : Option Addr) (n1 c1 : Nat) (l1 : List Int) (hr1 : Row w A1 (l1.map (Value.int .i64))) (hl1 : l1.length = n1) (hn1 : n1 ≤ maxLen) (hok1 : ∀ x ∈ l1, i64r x) (A2 : Option Addr) (n2 c2 : Nat) (l2 : List Int) (hr2 : Row w A2 (l2.map (Value.int .i64))) (hl2 : l2.length = n2) (hn2 : n2 ≤ maxLen) (hok2 : ∀ x ∈ l2, i64r x) : Gives Try.prog 8 #[.agg #[.int .i64 q0, .slice A0 n0 c0], .slice A1 n1 c1, .slice A2 n2 c2] w (.bool true) := by
  unfold maxLen at hn0
  unfold maxLen at hn1
  unfold maxLen at hn2
  by_cases hbig1 : (n1 : Int) ≤ 1048576
  · by_cases hbig2 : (n2 : Int) ≤ 1048576
    · by_cases hbig0 : (n0 : Int) ≤ 1048576
      · (unfold Gives; go_enter Try.func8, Try.ntmps8)
        go_wp2_with fail
        refine (szHouse_ok q0 A0 n0 c0 (1048576) _ (by omega) (by omega)).mono ?_; rintro _ w1 ⟨rfl, e1⟩
        have E1 := hid e1
        clear e1
        have hb0 : ¬ ((((1048576 : Int) - n0) : Int) < 0) := by omega
        obtain ⟨xw1, hxw1⟩ := E1.out.ex; subst hxw1
        go_wp2_with fail
        refine (toHouse_any q0 A0 n0 c0 l0 _ (hr0.ext (Ext.trans (by repeat (first | exact Ext.refl _ | refine Ext.alloc ?_ _ | assumption | refine Ext.over ?_ _ | refine Ext.drew ?_ | refine Ext.drewN ?_ _)) E1.out)) hl0 (by omega)).mono ?_; rintro _ w2 ⟨S0X, S0Xc, rfl, o2, e2⟩
        have E2 := hid (E1.out.trans e2)
        have S0X_2 := hid o2
        clear E1 e2 o2
        go_wp2_with fail
        refine (toIntS_any A1 n1 c1 l1 w2 (hr1.ext (Ext.trans (by repeat (first | exact Ext.refl _ | refine Ext.alloc ?_ _ | assumption | refine Ext.over ?_ _ | refine Ext.drew ?_ | refine Ext.drewN ?_ _)) E2.out)) hl1 (by omega)).mono ?_; rintro _ w3 ⟨S1X, S1Xc, rfl, o3, e3⟩
        have E3 := hid (E2.out.trans e3)
        have S0X_3 := hid (own_ext S0X_2.out e3)
        have S1X_3 := hid o3
        clear E2 S0X_2 e3 o3
        go_wp2_with fail
        refine (toIntS_any A2 n2 c2 l2 w3 (hr2.ext (Ext.trans (by repeat (first | exact Ext.refl _ | refine Ext.alloc ?_ _ | assumption | refine Ext.over ?_ _ | refine Ext.drew ?_ | refine Ext.drewN ?_ _)) E3.out)) hl2 (by omega)).mono ?_; rintro _ w4 ⟨S2X, S2Xc, rfl, o4, e4⟩
        have E4 := hid (E3.out.trans e4)
        have S0X_4 := hid (own_ext S0X_3.out e4)
        have S1X_4 := hid (own_ext S1X_3.out e4)
        have S2X_4 := hid o4
        clear E3 S0X_3 S1X_3 e4 o4
        go_wp2_with fail
        refine (sDispatch_any q0 S0X n0 S0Xc l0 S1X n1 S1Xc l1 S2X n2 S2Xc l2 w4 (Row.of_own S0X_4.out) hl0 (by omega) (Row.of_own S1X_4.out) hl1 (by omega) (Row.of_own S2X_4.out) hl2 (by omega) (own_cap S2X_4.out)).mono ?_; rintro _ w5 ⟨rfl, e5⟩
        have E5 := hid (E4.out.trans e5)
        have S0X_5 := hid (own_ext S0X_4.out e5)
        have S1X_5 := hid (own_ext S1X_4.out e5)
        have S2X_5 := hid (own_ext S2X_4.out e5)
        clear E4 S0X_4 S1X_4 S2X_4 e5
        clear S0X_5
        clear S1X_5
        clear S2X_5
        obtain ⟨xw5, hxw5⟩ := E5.out.ex; subst hxw5
        go_wp2_with fail
        refine (toHouse_any q0 A0 n0 c0 l0 _ (hr0.ext (Ext.trans (by repeat (first | exact Ext.refl _ | refine Ext.alloc ?_ _ | assumption | refine Ext.over ?_ _ | refine Ext.drew ?_ | refine Ext.drewN ?_ _)) E5.out)) hl0 (by omega)).mono ?_; rintro _ w6 ⟨I0X, I0Xc, rfl, o6, e6⟩
        have E6 := hid (E5.out.trans e6)
        have I0X_6 := hid o6
        clear E5 e6 o6
        go_wp2_with fail
        obtain ⟨w7, hw7⟩ : ∃ w7, w7 = World.alloc w6 (.cells #[.int .i64 q0, .slice I0X n0 I0Xc] 30) := ⟨_, rfl⟩
        rw [← hw7]
        have e7 : Ext w6 w7 := by rw [hw7]; repeat (first | exact Ext.refl _ | refine Ext.alloc ?_ _ | assumption | refine Ext.over ?_ _ | refine Ext.drew ?_ | refine Ext.drewN ?_ _)
        have bx0p := (show w7.cell? ⟨w6.heap.size, 0, none⟩ = some (.int .i64 q0) by rw [hw7]; go_simp)
        have bx0q := (show w7.cell? ⟨w6.heap.size, 1, none⟩ = some (.slice I0X n0 I0Xc) by rw [hw7]; go_simp)
        clear hw7
        have E7 := hid (E6.out.trans e7)
        have I0X_7 := hid (own_ext I0X_6.out e7)
        clear E6 I0X_6 e7
        refine (toIntS_any A1 n1 c1 l1 w7 (hr1.ext (Ext.trans (by repeat (first | exact Ext.refl _ | refine Ext.alloc ?_ _ | assumption | refine Ext.over ?_ _ | refine Ext.drew ?_ | refine Ext.drewN ?_ _)) E7.out)) hl1 (by omega)).mono ?_; rintro _ w8 ⟨I1X, I1Xc, rfl, o8, e8⟩
        have E8 := hid (E7.out.trans e8)
        have I0X_8 := hid (own_ext I0X_7.out e8)
        have I1X_8 := hid o8
        have bx0p_8 := old_cell e8 bx0p
        clear bx0p
        have bx0q_8 := old_cell e8 bx0q
        clear bx0q
        clear E7 I0X_7 e8 o8
        go_wp2_with fail
        refine (toIntS_any A2 n2 c2 l2 w8 (hr2.ext (Ext.trans (by repeat (first | exact Ext.refl _ | refine Ext.alloc ?_ _ | assumption | refine Ext.over ?_ _ | refine Ext.drew ?_ | refine Ext.drewN ?_ _)) E8.out)) hl2 (by omega)).mono ?_; rintro _ w9 ⟨I2X, I2Xc, rfl, o9, e9⟩
        have E9 := hid (E8.out.trans e9)
        have I0X_9 := hid (own_ext I0X_8.out e9)
        have I1X_9 := hid (own_ext I1X_8.out e9)
        have I2X_9 := hid o9
        have bx0p_9 := old_cell e9 bx0p_8
        clear bx0p_8
        have bx0q_9 := old_cell e9 bx0q_8
        clear bx0q_8
        clear E8 I0X_8 I1X_8 e9 o9
        go_wp2_with fail
        refine (iDispatchC_any q0 I0X n0 I0Xc l0 I1X n1 I1Xc l1 I2X n2 I2Xc l2 w9 (Row.of_own I0X_9.out) hl0 (by omega) (Row.of_own I1X_9.out) hl1 (by omega) (Row.of_own I2X_9.out) hl2 (by omega) (own_cap I2X_9.out)).mono ?_; rintro _ w10 ⟨rfl, e10⟩
        have E10 := hid (E9.out.trans e10)
        have I0X_10 := hid (own_ext I0X_9.out e10)
        have I1X_10 := hid (own_ext I1X_9.out e10)
        have I2X_10 := hid (own_ext I2X_9.out e10)
        have bx0p_10 := old_cell e10 bx0p_9
        clear bx0p_9
        have bx0q_10 := old_cell e10 bx0q_9
        clear bx0q_9
        clear E9 I0X_9 I1X_9 I2X_9 e10
        obtain ⟨xw10, hxw10⟩ := E10.out.ex; subst hxw10
        go_wp2_with fail
        refine wp_region_her [true, true, false, false, false] (by kernel_rfl) (by kernel_rfl) ?_
        simp only [selB, notB, List.map_cons, List.map_nil, Bool.not_true, Bool.not_false]
        repeat (refine wpH_step (fun K hK => ?_); go_simp; refine hK _ ?_; clear hK K)
        refine wpH_nil ?_
        refine wpT_step (fun w11 hw11 K hK => ?_)
        have e11 := later_ext hw11; clear hw11
        have E11 := hid (E10.out.trans e11)
        have I0X_11 := hid (own_ext I0X_10.out e11)
        have I1X_11 := hid (own_ext I1X_10.out e11)
        have I2X_11 := hid (own_ext I2X_10.out e11)
        have bx0p_11 := old_cell e11 bx0p_10
        clear bx0p_10
        have bx0q_11 := old_cell e11 bx0q_10
        clear bx0q_10
        clear E10 I0X_10 I1X_10 I2X_10 e11
        go_simp
        refine (toHouse_any q0 A0 n0 c0 l0 w11 (hr0.ext (Ext.trans (by repeat (first | exact Ext.refl _ | refine Ext.alloc ?_ _ | assumption | refine Ext.over ?_ _ | refine Ext.drew ?_ | refine Ext.drewN ?_ _)) E11.out)) hl0 (by omega)).mono ?_; rintro _ w12 ⟨Q0X, Q0Xc, rfl, o12, e12⟩
        refine ⟨_, rfl, hK _ _ e12.ex ?_⟩; clear hK K
        have E12 := hid (E11.out.trans e12)
        have I0X_12 := hid (own_ext I0X_11.out e12)
        have I1X_12 := hid (own_ext I1X_11.out e12)
        have I2X_12 := hid (own_ext I2X_11.out e12)
        have Q0X_12 := hid o12
        have bx0p_12 := old_cell e12 bx0p_11
        clear bx0p_11
        have bx0q_12 := old_cell e12 bx0q_11
        clear bx0q_11
        clear E11 I0X_11 I1X_11 I2X_11 e12 o12
        refine wpT_step (fun w13 hw13 K hK => ?_)
        have e13 := later_ext hw13; clear hw13
        have E13 := hid (E12.out.trans e13)
        have I0X_13 := hid (own_ext I0X_12.out e13)
        have I1X_13 := hid (own_ext I1X_12.out e13)
        have I2X_13 := hid (own_ext I2X_12.out e13)
        have Q0X_13 := hid (own_ext Q0X_12.out e13)
        have bx0p_13 := old_cell e13 bx0p_12
        clear bx0p_12
        have bx0q_13 := old_cell e13 bx0q_12
        clear bx0q_12
        clear E12 I0X_12 I1X_12 I2X_12 Q0X_12 e13
        go_simp
        refine (eqHouse_same q0 I0X Q0X n0 I0Xc Q0Xc l0 w13 (Row.of_own I0X_13.out) (Row.of_own Q0X_13.out) hl0 (by omega)).mono ?_; rintro _ w14 ⟨rfl, e14⟩
        refine ⟨_, rfl, hK _ _ e14.ex ?_⟩; clear hK K
        have E14 := hid (E13.out.trans e14)
        have I0X_14 := hid (own_ext I0X_13.out e14)
        have I1X_14 := hid (own_ext I1X_13.out e14)
        have I2X_14 := hid (own_ext I2X_13.out e14)
        have Q0X_14 := hid (own_ext Q0X_13.out e14)
        have bx0p_14 := old_cell e14 bx0p_13
        clear bx0p_13
        have bx0q_14 := old_cell e14 bx0q_13
        clear bx0q_13
        clear E13 I0X_13 I1X_13 I2X_13 Q0X_13 e14
        refine wpT_step (fun w15 hw15 K hK => ?_)
        have e15 := later_ext hw15; clear hw15
        have E15 := hid (E14.out.trans e15)
        have I0X_15 := hid (own_ext I0X_14.out e15)
        have I1X_15 := hid (own_ext I1X_14.out e15)
        have I2X_15 := hid (own_ext I2X_14.out e15)
        have Q0X_15 := hid (own_ext Q0X_14.out e15)
        have bx0p_15 := old_cell e15 bx0p_14
        clear bx0p_14
        have bx0q_15 := old_cell e15 bx0q_14
        clear bx0q_14
        clear E14 I0X_14 I1X_14 I2X_14 Q0X_14 e15
        go_simp; refine hK _ _ (Ext.ex (Ext.refl w15)) ?_; clear hK K
        refine wpT_nil (fun w16 hw16 => ?_)
        have e16 := later_ext hw16; clear hw16
        have E16 := hid (E15.out.trans e16)
        have I0X_16 := hid (own_ext I0X_15.out e16)
        have I1X_16 := hid (own_ext I1X_15.out e16)
        have I2X_16 := hid (own_ext I2X_15.out e16)
        have Q0X_16 := hid (own_ext Q0X_15.out e16)
        have bx0p_16 := old_cell e16 bx0p_15
        clear bx0p_15
        have bx0q_16 := old_cell e16 bx0q_15
        clear bx0q_15
        clear E15 I0X_15 I1X_15 I2X_15 Q0X_15 e16
        clear Q0X_16
        clear I0X_16
        go_wp2_with fail
        refine (toIntS_any A1 n1 c1 l1 w16 (hr1.ext (Ext.trans (by repeat (first | exact Ext.refl _ | refine Ext.alloc ?_ _ | assumption | refine Ext.over ?_ _ | refine Ext.drew ?_ | refine Ext.drewN ?_ _)) E16.out)) hl1 (by omega)).mono ?_; rintro _ w17 ⟨Q1X, Q1Xc, rfl, o17, e17⟩
        have E17 := hid (E16.out.trans e17)
        have I1X_17 := hid (own_ext I1X_16.out e17)
        have I2X_17 := hid (own_ext I2X_16.out e17)
        have Q1X_17 := hid o17
        have bx0p_17 := old_cell e17 bx0p_16
        clear bx0p_16
        have bx0q_17 := old_cell e17 bx0q_16
        clear bx0q_16
        clear E16 I1X_16 I2X_16 e17 o17
        go_wp2_with fail
        refine (eqIntS_same  I1X Q1X n1 I1Xc Q1Xc l1 w17 (Row.of_own I1X_17.out) (Row.of_own Q1X_17.out) hl1 (by omega)).mono ?_; rintro _ w18 ⟨rfl, e18⟩
        have E18 := hid (E17.out.trans e18)
        have I1X_18 := hid (own_ext I1X_17.out e18)
        have I2X_18 := hid (own_ext I2X_17.out e18)
        have Q1X_18 := hid (own_ext Q1X_17.out e18)
        have bx0p_18 := old_cell e18 bx0p_17
        clear bx0p_17
        have bx0q_18 := old_cell e18 bx0q_17
        clear bx0q_17
        clear E17 I1X_17 I2X_17 Q1X_17 e18
        clear Q1X_18
        clear I1X_18
        go_wp2_with fail
        refine (toIntS_any A2 n2 c2 l2 w18 (hr2.ext (Ext.trans (by repeat (first | exact Ext.refl _ | refine Ext.alloc ?_ _ | assumption | refine Ext.over ?_ _ | refine Ext.drew ?_ | refine Ext.drewN ?_ _)) E18.out)) hl2 (by omega)).mono ?_; rintro _ w19 ⟨Q2X, Q2Xc, rfl, o19, e19⟩
        have E19 := hid (E18.out.trans e19)
        have I2X_19 := hid (own_ext I2X_18.out e19)
        have Q2X_19 := hid o19
        have bx0p_19 := old_cell e19 bx0p_18
        clear bx0p_18
        have bx0q_19 := old_cell e19 bx0q_18
        clear bx0q_18
        clear E18 I2X_18 e19 o19
        go_wp2_with fail
        refine (eqIntS_same  I2X Q2X n2 I2Xc Q2Xc l2 w19 (Row.of_own I2X_19.out) (Row.of_own Q2X_19.out) hl2 (by omega)).mono ?_; rintro _ w20 ⟨rfl, e20⟩
        have E20 := hid (E19.out.trans e20)
        have I2X_20 := hid (own_ext I2X_19.out e20)
        have Q2X_20 := hid (own_ext Q2X_19.out e20)
        have bx0p_20 := old_cell e20 bx0p_19
        clear bx0p_19
        have bx0q_20 := old_cell e20 bx0q_19
        clear bx0q_19
        clear E19 I2X_19 Q2X_19 e20
        clear Q2X_20
        clear I2X_20
        go_wp2_with fail
        go_ret
        exact ⟨rfl, Ext.trans (by repeat (first | exact Ext.refl _ | refine Ext.alloc ?_ _ | assumption | refine Ext.over ?_ _ | refine Ext.drew ?_ | refine Ext.drewN ?_ _)) E20.out⟩
      · (unfold Gives; go_enter Try.func8, Try.ntmps8)
        go_wp2_with fail
        refine (szHouse_no q0 A0 n0 c0 (1048576) _ (by omega) (by omega) (by omega) (by omega)).mono ?_; rintro _ w1 ⟨rfl, e1⟩
        have E1 := hid e1
        clear e1
        go_wp2_with fail
        go_ret
        exact ⟨rfl, Ext.trans (by repeat (first | exact Ext.refl _ | refine Ext.alloc ?_ _ | assumption | refine Ext.over ?_ _ | refine Ext.drew ?_ | refine Ext.drewN ?_ _)) E1.out⟩
    · (unfold Gives; go_enter Try.func8, Try.ntmps8)
      go_wp2_with fail
      go_ret
      refine ⟨rfl, ?_⟩; repeat (first | exact Ext.refl _ | refine Ext.alloc ?_ _ | assumption | refine Ext.over ?_ _ | refine Ext.drew ?_ | refine Ext.drewN ?_ _)
  · (unfold Gives; go_enter Try.func8, Try.ntmps8)
    go_wp2_with fail
    go_ret
    refine ⟨rfl, ?_⟩; repeat (first | exact Ext.refl _ | refine Ext.alloc ?_ _ | assumption | refine Ext.over ?_ _ | refine Ext.drew ?_ | refine Ext.drewN ?_ _)

end fnExactDispatchCost
end Go.Proofs.Ytnkdafdafgjicaa
