/- The walk of FnExactAreLinked: it returns true. Conditions: its arguments read as lists.  -/
import Derived.Test.YtnkdafdafgjicaaLinkedS
import Derived.Test.YtnkdafdafgjicaaHelpH
import Derived.Test.YtnkdafdafgjicaaHelpI
import Derived.Test.YtnkdafdafgjicaaHer
namespace Go.Proofs.Ytnkdafdafgjicaa
open Go.RowKit
set_option linter.unusedVariables false
namespace fnExactAreLinked
set_option maxHeartbeats 3200000 in
set_option maxRecDepth 100000 in
theorem walk (w : World) (q0 : Int) (hq0 : i64r q0) (A0 : Option Addr) (n0 c0 : Nat) (l0 : List T2) (hr0 : Row w A0 (l0.flatMap T2.v)) (hl0 : l0.length = n0) (hn0 : n0 ≤ maxLen) (hok0 : ∀ x ∈ l0, x.ok) (A1 : Option Addr) (n1 c1 : Nat) (l1 : List Int) (hr1 : Row w A1 (l1.map (Value.int .i64))) (hl1 : l1.length = n1) (hn1 : n1 ≤ maxLen) (hok1 : ∀ x ∈ l1, i64r x) : Gives Try.prog 4 #[.agg #[.int .i64 q0, .slice A0 n0 c0], .slice A1 n1 c1] w (.bool true) := by
  unfold maxLen at hn0
  unfold maxLen at hn1
  by_cases hbig1 : (n1 : Int) ≤ 1048576
  · by_cases hbig0 : (n0 : Int) ≤ 1048576
    · (unfold Gives; go_enter Try.func4, Try.ntmps4)
      go_wp2_with fail
      refine (szHouse_ok q0 A0 n0 c0 (1048576) _ (by omega) (by omega)).mono ?_; rintro _ w1 ⟨rfl, e1⟩
      have E1 := hid e1
      clear e1
      have hb0 : ¬ ((((1048576 : Int) - n0) : Int) < 0) := by omega
      obtain ⟨xw1, hxw1⟩ := E1.out.ex; subst hxw1
      go_wp2_with fail
      refine (toHouse_any q0 A0 n0 c0 l0 _ (hr0.ext (Ext.trans (by repeat (first | exact Ext.refl _ | refine Ext.alloc ?_ _ | assumption | refine Ext.over ?_ _ | refine Ext.drew ?_ | refine Ext.drewN ?_ _)) E1.out)) hl0 (by omega)).mono ?_; rintro _ w2 ⟨S0X, S0Xc, rfl, o2, e2⟩
      have E2 := hid (E1.out.trans e2)
      have S0X_2 := hid o2
      clear E1 e2 o2
      go_wp2_with fail
      refine (toIntS_any A1 n1 c1 l1 w2 (hr1.ext (Ext.trans (by repeat (first | exact Ext.refl _ | refine Ext.alloc ?_ _ | assumption | refine Ext.over ?_ _ | refine Ext.drew ?_ | refine Ext.drewN ?_ _)) E2.out)) hl1 (by omega)).mono ?_; rintro _ w3 ⟨S1X, S1Xc, rfl, o3, e3⟩
      have E3 := hid (E2.out.trans e3)
      have S0X_3 := hid (own_ext S0X_2.out e3)
      have S1X_3 := hid o3
      clear E2 S0X_2 e3 o3
      go_wp2_with fail
      refine (sLinked_any q0 S0X n0 S0Xc l0 S1X n1 S1Xc l1 w3 (Row.of_own S0X_3.out) hl0 (by omega) (Row.of_own S1X_3.out) hl1 (by omega)).mono ?_; rintro _ w4 ⟨rfl, e4⟩
      have E4 := hid (E3.out.trans e4)
      have S0X_4 := hid (own_ext S0X_3.out e4)
      have S1X_4 := hid (own_ext S1X_3.out e4)
      clear E3 S0X_3 S1X_3 e4
      clear S0X_4
      clear S1X_4
      obtain ⟨xw4, hxw4⟩ := E4.out.ex; subst hxw4
      go_wp2_with fail
      refine (toHouse_any q0 A0 n0 c0 l0 _ (hr0.ext (Ext.trans (by repeat (first | exact Ext.refl _ | refine Ext.alloc ?_ _ | assumption | refine Ext.over ?_ _ | refine Ext.drew ?_ | refine Ext.drewN ?_ _)) E4.out)) hl0 (by omega)).mono ?_; rintro _ w5 ⟨I0X, I0Xc, rfl, o5, e5⟩
      have E5 := hid (E4.out.trans e5)
      have I0X_5 := hid o5
      clear E4 e5 o5
      go_wp2_with fail
      obtain ⟨w6, hw6⟩ : ∃ w6, w6 = World.alloc w5 (.cells #[.int .i64 q0, .slice I0X n0 I0Xc] 30) := ⟨_, rfl⟩
      rw [← hw6]
      have e6 : Ext w5 w6 := by rw [hw6]; repeat (first | exact Ext.refl _ | refine Ext.alloc ?_ _ | assumption | refine Ext.over ?_ _ | refine Ext.drew ?_ | refine Ext.drewN ?_ _)
      have bx0p := (show w6.cell? ⟨w5.heap.size, 0, none⟩ = some (.int .i64 q0) by rw [hw6]; go_simp)
      have bx0q := (show w6.cell? ⟨w5.heap.size, 1, none⟩ = some (.slice I0X n0 I0Xc) by rw [hw6]; go_simp)
      clear hw6
      have E6 := hid (E5.out.trans e6)
      have I0X_6 := hid (own_ext I0X_5.out e6)
      clear E5 I0X_5 e6
      refine (toIntS_any A1 n1 c1 l1 w6 (hr1.ext (Ext.trans (by repeat (first | exact Ext.refl _ | refine Ext.alloc ?_ _ | assumption | refine Ext.over ?_ _ | refine Ext.drew ?_ | refine Ext.drewN ?_ _)) E6.out)) hl1 (by omega)).mono ?_; rintro _ w7 ⟨I1X, I1Xc, rfl, o7, e7⟩
      have E7 := hid (E6.out.trans e7)
      have I0X_7 := hid (own_ext I0X_6.out e7)
      have I1X_7 := hid o7
      have bx0p_7 := old_cell e7 bx0p
      clear bx0p
      have bx0q_7 := old_cell e7 bx0q
      clear bx0q
      clear E6 I0X_6 e7 o7
      go_wp2_with fail
      refine (iLinked_any q0 I0X n0 I0Xc l0 I1X n1 I1Xc l1 w7 (Row.of_own I0X_7.out) hl0 (by omega) (Row.of_own I1X_7.out) hl1 (by omega)).mono ?_; rintro _ w8 ⟨rfl, e8⟩
      have E8 := hid (E7.out.trans e8)
      have I0X_8 := hid (own_ext I0X_7.out e8)
      have I1X_8 := hid (own_ext I1X_7.out e8)
      have bx0p_8 := old_cell e8 bx0p_7
      clear bx0p_7
      have bx0q_8 := old_cell e8 bx0q_7
      clear bx0q_7
      clear E7 I0X_7 I1X_7 e8
      obtain ⟨xw8, hxw8⟩ := E8.out.ex; subst hxw8
      go_wp2_with fail
      refine wp_region_her [true, true, false, false, false] (by kernel_rfl) (by kernel_rfl) ?_
      simp only [selB, notB, List.map_cons, List.map_nil, Bool.not_true, Bool.not_false]
      repeat (refine wpH_step (fun K hK => ?_); go_simp; refine hK _ ?_; clear hK K)
      refine wpH_nil ?_
      refine wpT_step (fun w9 hw9 K hK => ?_)
      have e9 := later_ext hw9; clear hw9
      have E9 := hid (E8.out.trans e9)
      have I0X_9 := hid (own_ext I0X_8.out e9)
      have I1X_9 := hid (own_ext I1X_8.out e9)
      have bx0p_9 := old_cell e9 bx0p_8
      clear bx0p_8
      have bx0q_9 := old_cell e9 bx0q_8
      clear bx0q_8
      clear E8 I0X_8 I1X_8 e9
      go_simp
      refine (toHouse_any q0 A0 n0 c0 l0 w9 (hr0.ext (Ext.trans (by repeat (first | exact Ext.refl _ | refine Ext.alloc ?_ _ | assumption | refine Ext.over ?_ _ | refine Ext.drew ?_ | refine Ext.drewN ?_ _)) E9.out)) hl0 (by omega)).mono ?_; rintro _ w10 ⟨Q0X, Q0Xc, rfl, o10, e10⟩
      refine ⟨_, rfl, hK _ _ e10.ex ?_⟩; clear hK K
      have E10 := hid (E9.out.trans e10)
      have I0X_10 := hid (own_ext I0X_9.out e10)
      have I1X_10 := hid (own_ext I1X_9.out e10)
      have Q0X_10 := hid o10
      have bx0p_10 := old_cell e10 bx0p_9
      clear bx0p_9
      have bx0q_10 := old_cell e10 bx0q_9
      clear bx0q_9
      clear E9 I0X_9 I1X_9 e10 o10
      refine wpT_step (fun w11 hw11 K hK => ?_)
      have e11 := later_ext hw11; clear hw11
      have E11 := hid (E10.out.trans e11)
      have I0X_11 := hid (own_ext I0X_10.out e11)
      have I1X_11 := hid (own_ext I1X_10.out e11)
      have Q0X_11 := hid (own_ext Q0X_10.out e11)
      have bx0p_11 := old_cell e11 bx0p_10
      clear bx0p_10
      have bx0q_11 := old_cell e11 bx0q_10
      clear bx0q_10
      clear E10 I0X_10 I1X_10 Q0X_10 e11
      go_simp
      refine (eqHouse_same q0 I0X Q0X n0 I0Xc Q0Xc l0 w11 (Row.of_own I0X_11.out) (Row.of_own Q0X_11.out) hl0 (by omega)).mono ?_; rintro _ w12 ⟨rfl, e12⟩
      refine ⟨_, rfl, hK _ _ e12.ex ?_⟩; clear hK K
      have E12 := hid (E11.out.trans e12)
      have I0X_12 := hid (own_ext I0X_11.out e12)
      have I1X_12 := hid (own_ext I1X_11.out e12)
      have Q0X_12 := hid (own_ext Q0X_11.out e12)
      have bx0p_12 := old_cell e12 bx0p_11
      clear bx0p_11
      have bx0q_12 := old_cell e12 bx0q_11
      clear bx0q_11
      clear E11 I0X_11 I1X_11 Q0X_11 e12
      refine wpT_step (fun w13 hw13 K hK => ?_)
      have e13 := later_ext hw13; clear hw13
      have E13 := hid (E12.out.trans e13)
      have I0X_13 := hid (own_ext I0X_12.out e13)
      have I1X_13 := hid (own_ext I1X_12.out e13)
      have Q0X_13 := hid (own_ext Q0X_12.out e13)
      have bx0p_13 := old_cell e13 bx0p_12
      clear bx0p_12
      have bx0q_13 := old_cell e13 bx0q_12
      clear bx0q_12
      clear E12 I0X_12 I1X_12 Q0X_12 e13
      go_simp; refine hK _ _ (Ext.ex (Ext.refl w13)) ?_; clear hK K
      refine wpT_nil (fun w14 hw14 => ?_)
      have e14 := later_ext hw14; clear hw14
      have E14 := hid (E13.out.trans e14)
      have I0X_14 := hid (own_ext I0X_13.out e14)
      have I1X_14 := hid (own_ext I1X_13.out e14)
      have Q0X_14 := hid (own_ext Q0X_13.out e14)
      have bx0p_14 := old_cell e14 bx0p_13
      clear bx0p_13
      have bx0q_14 := old_cell e14 bx0q_13
      clear bx0q_13
      clear E13 I0X_13 I1X_13 Q0X_13 e14
      clear Q0X_14
      clear I0X_14
      go_wp2_with fail
      refine (toIntS_any A1 n1 c1 l1 w14 (hr1.ext (Ext.trans (by repeat (first | exact Ext.refl _ | refine Ext.alloc ?_ _ | assumption | refine Ext.over ?_ _ | refine Ext.drew ?_ | refine Ext.drewN ?_ _)) E14.out)) hl1 (by omega)).mono ?_; rintro _ w15 ⟨Q1X, Q1Xc, rfl, o15, e15⟩
      have E15 := hid (E14.out.trans e15)
      have I1X_15 := hid (own_ext I1X_14.out e15)
      have Q1X_15 := hid o15
      have bx0p_15 := old_cell e15 bx0p_14
      clear bx0p_14
      have bx0q_15 := old_cell e15 bx0q_14
      clear bx0q_14
      clear E14 I1X_14 e15 o15
      go_wp2_with fail
      refine (eqIntS_same  I1X Q1X n1 I1Xc Q1Xc l1 w15 (Row.of_own I1X_15.out) (Row.of_own Q1X_15.out) hl1 (by omega)).mono ?_; rintro _ w16 ⟨rfl, e16⟩
      have E16 := hid (E15.out.trans e16)
      have I1X_16 := hid (own_ext I1X_15.out e16)
      have Q1X_16 := hid (own_ext Q1X_15.out e16)
      have bx0p_16 := old_cell e16 bx0p_15
      clear bx0p_15
      have bx0q_16 := old_cell e16 bx0q_15
      clear bx0q_15
      clear E15 I1X_15 Q1X_15 e16
      clear Q1X_16
      clear I1X_16
      go_wp2_with fail
      go_ret
      exact ⟨rfl, Ext.trans (by repeat (first | exact Ext.refl _ | refine Ext.alloc ?_ _ | assumption | refine Ext.over ?_ _ | refine Ext.drew ?_ | refine Ext.drewN ?_ _)) E16.out⟩
    · (unfold Gives; go_enter Try.func4, Try.ntmps4)
      go_wp2_with fail
      refine (szHouse_no q0 A0 n0 c0 (1048576) _ (by omega) (by omega) (by omega) (by omega)).mono ?_; rintro _ w1 ⟨rfl, e1⟩
      have E1 := hid e1
      clear e1
      go_wp2_with fail
      go_ret
      exact ⟨rfl, Ext.trans (by repeat (first | exact Ext.refl _ | refine Ext.alloc ?_ _ | assumption | refine Ext.over ?_ _ | refine Ext.drew ?_ | refine Ext.drewN ?_ _)) E1.out⟩
  · (unfold Gives; go_enter Try.func4, Try.ntmps4)
    go_wp2_with fail
    go_ret
    refine ⟨rfl, ?_⟩; repeat (first | exact Ext.refl _ | refine Ext.alloc ?_ _ | assumption | refine Ext.over ?_ _ | refine Ext.drew ?_ | refine Ext.drewN ?_ _)

end fnExactAreLinked
end Go.Proofs.Ytnkdafdafgjicaa
