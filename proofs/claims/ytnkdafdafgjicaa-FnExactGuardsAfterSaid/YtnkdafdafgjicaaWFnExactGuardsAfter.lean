/- The walk of FnExactGuardsAfter: it returns true. Conditions: its arguments read as lists.  -/
import Derived.Test.YtnkdafdafgjicaaAfterS
import Derived.Test.YtnkdafdafgjicaaAfterI
import Derived.Test.YtnkdafdafgjicaaHelpH
import Derived.Test.YtnkdafdafgjicaaHelpI
import Derived.Test.YtnkdafdafgjicaaHelpM
import Derived.Test.YtnkdafdafgjicaaHelpHM
import Derived.Test.YtnkdafdafgjicaaHer
namespace Go.Proofs.Ytnkdafdafgjicaa
open Go.RowKit
set_option linter.unusedVariables false
namespace fnExactGuardsAfter
set_option maxHeartbeats 3200000 in
set_option maxRecDepth 100000 in
theorem walk (w : World) (q0 : Int) (hq0 : i64r q0) (A0 : Option Addr) (n0 c0 : Nat) (l0 : List T2) (hr0 : Row w A0 (l0.flatMap T2.v)) (hl0 : l0.length = n0) (hn0 : n0 ≤ maxLen) (hok0 : ∀ x ∈ l0, x.ok) (A1 : Option Addr) (n1 c1 : Nat) (l1 : List Int) (hr1 : Row w A1 (l1.map (Value.int .i64))) (hl1 : l1.length = n1) (hn1 : n1 ≤ maxLen) (hok1 : ∀ x ∈ l1, i64r x) : Gives Try.prog 5 #[.agg #[.int .i64 q0, .slice A0 n0 c0], .slice A1 n1 c1] w (.bool true) := by
  unfold maxLen at hn0
  unfold maxLen at hn1
  by_cases hbig1 : (n1 : Int) ≤ 1048576
  · by_cases hbig0 : (n0 : Int) ≤ 1048576
    · have hlen : (guardsOf q0 l0 l1).length ≤ 8388608 := by have := guardsOf_len q0 l0 l1; omega
      (unfold Gives; go_enter Try.func5, Try.ntmps5)
      go_wp2_with fail
      refine (szHouse_ok q0 A0 n0 c0 (1048576) _ (by omega) (by omega)).mono ?_; rintro _ w1 ⟨rfl, e1⟩
      have E1 := hid e1
      clear e1
      have hb0 : ¬ ((((1048576 : Int) - n0) : Int) < 0) := by omega
      obtain ⟨xw1, hxw1⟩ := E1.out.ex; subst hxw1
      go_wp2_with fail
      refine (toHouse_any q0 A0 n0 c0 l0 _ (hr0.ext (Ext.trans (by repeat (first | exact Ext.refl _ | refine Ext.alloc ?_ _ | assumption | refine Ext.over ?_ _ | refine Ext.drew ?_ | refine Ext.drewN ?_ _)) E1.out)) hl0 (by omega)).mono ?_; rintro _ w2 ⟨S0X, S0Xc, rfl, o2, e2⟩
      have BS0X := hid E1.out.size
      have E2 := hid (E1.out.trans e2)
      have S0X_2 := hid o2
      clear E1 e2 o2
      go_wp2_with fail
      refine (toIntS_any A1 n1 c1 l1 w2 (hr1.ext (Ext.trans (by repeat (first | exact Ext.refl _ | refine Ext.alloc ?_ _ | assumption | refine Ext.over ?_ _ | refine Ext.drew ?_ | refine Ext.drewN ?_ _)) E2.out)) hl1 (by omega)).mono ?_; rintro _ w3 ⟨S1X, S1Xc, rfl, o3, e3⟩
      have NES0XS1X := hid (own_ne S0X_2.out o3 (Nat.le_refl _)); have NES1XS0X := hid (own_ne' S0X_2.out o3 (Nat.le_refl _))
      have BS1X := hid E2.out.size
      have E3 := hid (E2.out.trans e3)
      have S0X_3 := hid (own_ext S0X_2.out e3)
      have S1X_3 := hid o3
      clear E2 S0X_2 e3 o3
      go_wp2_with fail
      refine (sAfter_any q0 S0X n0 S0Xc l0 S1X n1 S1Xc l1 w3 (Row.of_own S0X_3.out) hl0 (by omega) (Row.of_own S1X_3.out) hl1 (by omega)).mono ?_; rintro _ w4 ⟨WX, mw, WXc, rfl, o4, e4⟩
      have hm := own_len o4
      have NES0XWX := hid (own_ne S0X_3.out o4 (Nat.le_refl _)); have NEWXS0X := hid (own_ne' S0X_3.out o4 (Nat.le_refl _))
      have NES1XWX := hid (own_ne S1X_3.out o4 (Nat.le_refl _)); have NEWXS1X := hid (own_ne' S1X_3.out o4 (Nat.le_refl _))
      have BWX := hid E3.out.size
      have E4 := hid (E3.out.trans e4)
      have S0X_4 := hid (own_ext S0X_3.out e4)
      have S1X_4 := hid (own_ext S1X_3.out e4)
      have WX_4 := hid o4
      clear E3 S0X_3 S1X_3 e4 o4
      clear S0X_4
      clear S1X_4
      obtain ⟨xw4, hxw4⟩ := E4.out.ex; subst hxw4
      go_wp2_with fail
      refine (toHouse_any q0 A0 n0 c0 l0 _ (hr0.ext (Ext.trans (by repeat (first | exact Ext.refl _ | refine Ext.alloc ?_ _ | assumption | refine Ext.over ?_ _ | refine Ext.drew ?_ | refine Ext.drewN ?_ _)) E4.out)) hl0 (by omega)).mono ?_; rintro _ w5 ⟨I0X, I0Xc, rfl, o5, e5⟩
      have NEWXI0X := hid (own_ne WX_4.out o5 (Nat.le_refl _)); have NEI0XWX := hid (own_ne' WX_4.out o5 (Nat.le_refl _))
      have BI0X := hid E4.out.size
      have E5 := hid (E4.out.trans e5)
      have WX_5 := hid (own_ext WX_4.out e5)
      have I0X_5 := hid o5
      clear E4 WX_4 e5 o5
      go_wp2_with fail
      obtain ⟨w6, hw6⟩ : ∃ w6, w6 = World.alloc w5 (.cells #[.int .i64 q0, .slice I0X n0 I0Xc] 30) := ⟨_, rfl⟩
      rw [← hw6]
      have e6 : Ext w5 w6 := by rw [hw6]; repeat (first | exact Ext.refl _ | refine Ext.alloc ?_ _ | assumption | refine Ext.over ?_ _ | refine Ext.drew ?_ | refine Ext.drewN ?_ _)
      have bx0p := (show w6.cell? ⟨w5.heap.size, 0, none⟩ = some (.int .i64 q0) by rw [hw6]; go_simp)
      have bx0q := (show w6.cell? ⟨w5.heap.size, 1, none⟩ = some (.slice I0X n0 I0Xc) by rw [hw6]; go_simp)
      clear hw6
      have E6 := hid (E5.out.trans e6)
      have WX_6 := hid (own_ext WX_5.out e6)
      have I0X_6 := hid (own_ext I0X_5.out e6)
      clear E5 WX_5 I0X_5 e6
      refine (toIntS_any A1 n1 c1 l1 w6 (hr1.ext (Ext.trans (by repeat (first | exact Ext.refl _ | refine Ext.alloc ?_ _ | assumption | refine Ext.over ?_ _ | refine Ext.drew ?_ | refine Ext.drewN ?_ _)) E6.out)) hl1 (by omega)).mono ?_; rintro _ w7 ⟨I1X, I1Xc, rfl, o7, e7⟩
      have NEWXI1X := hid (own_ne WX_6.out o7 (Nat.le_refl _)); have NEI1XWX := hid (own_ne' WX_6.out o7 (Nat.le_refl _))
      have NEI0XI1X := hid (own_ne I0X_6.out o7 (Nat.le_refl _)); have NEI1XI0X := hid (own_ne' I0X_6.out o7 (Nat.le_refl _))
      have BI1X := hid E6.out.size
      have E7 := hid (E6.out.trans e7)
      have WX_7 := hid (own_ext WX_6.out e7)
      have I0X_7 := hid (own_ext I0X_6.out e7)
      have I1X_7 := hid o7
      have bx0p_7 := old_cell e7 bx0p
      clear bx0p
      have bx0q_7 := old_cell e7 bx0q
      clear bx0q
      clear E6 WX_6 I0X_6 e7 o7
      go_wp2_with fail
      refine (iAfter_any q0 I0X n0 I0Xc l0 I1X n1 I1Xc l1 w7 (Row.of_own I0X_7.out) hl0 (by omega) (Row.of_own I1X_7.out) hl1 (by omega)).mono ?_; rintro _ w8 ⟨GX, mg, GXc, rfl, o8, e8⟩
      have hm' := own_len o8; obtain rfl : mg = mw := by omega
      have NEWXGX := hid (own_ne WX_7.out o8 (Nat.le_refl _)); have NEGXWX := hid (own_ne' WX_7.out o8 (Nat.le_refl _))
      have NEI0XGX := hid (own_ne I0X_7.out o8 (Nat.le_refl _)); have NEGXI0X := hid (own_ne' I0X_7.out o8 (Nat.le_refl _))
      have NEI1XGX := hid (own_ne I1X_7.out o8 (Nat.le_refl _)); have NEGXI1X := hid (own_ne' I1X_7.out o8 (Nat.le_refl _))
      have BGX := hid E7.out.size
      have E8 := hid (E7.out.trans e8)
      have WX_8 := hid (own_ext WX_7.out e8)
      have I0X_8 := hid (own_ext I0X_7.out e8)
      have I1X_8 := hid (own_ext I1X_7.out e8)
      have GX_8 := hid o8
      have bx0p_8 := old_cell e8 bx0p_7
      clear bx0p_7
      have bx0q_8 := old_cell e8 bx0q_7
      clear bx0q_7
      clear E7 WX_7 I0X_7 I1X_7 e8 o8
      go_wp2_with fail
      refine (eqIntS_same GX WX mg GXc WXc (guardsOf q0 l0 l1) w8 (Row.of_own GX_8.out) (Row.of_own WX_8.out) hm' (by omega)).mono ?_; rintro _ w9 ⟨rfl, e9⟩
      have E9 := hid (E8.out.trans e9)
      have WX_9 := hid (own_ext WX_8.out e9)
      have I0X_9 := hid (own_ext I0X_8.out e9)
      have I1X_9 := hid (own_ext I1X_8.out e9)
      have GX_9 := hid (own_ext GX_8.out e9)
      have bx0p_9 := old_cell e9 bx0p_8
      clear bx0p_8
      have bx0q_9 := old_cell e9 bx0q_8
      clear bx0q_8
      clear E8 WX_8 I0X_8 I1X_8 GX_8 e9
      obtain ⟨xw9, hxw9⟩ := E9.out.ex; subst hxw9
      go_wp2_with fail
      refine wp_region_her [true, true, false, false, false] (by kernel_rfl) (by kernel_rfl) ?_
      simp only [selB, notB, List.map_cons, List.map_nil, Bool.not_true, Bool.not_false]
      repeat (refine wpH_step (fun K hK => ?_); go_simp; refine hK _ ?_; clear hK K)
      refine wpH_nil ?_
      refine wpT_step (fun w10 hw10 K hK => ?_)
      have e10 := later_ext hw10; clear hw10
      have E10 := hid (E9.out.trans e10)
      have WX_10 := hid (own_ext WX_9.out e10)
      have I0X_10 := hid (own_ext I0X_9.out e10)
      have I1X_10 := hid (own_ext I1X_9.out e10)
      have GX_10 := hid (own_ext GX_9.out e10)
      have bx0p_10 := old_cell e10 bx0p_9
      clear bx0p_9
      have bx0q_10 := old_cell e10 bx0q_9
      clear bx0q_9
      clear E9 WX_9 I0X_9 I1X_9 GX_9 e10
      go_simp
      refine (toHouse_any q0 A0 n0 c0 l0 w10 (hr0.ext (Ext.trans (by repeat (first | exact Ext.refl _ | refine Ext.alloc ?_ _ | assumption | refine Ext.over ?_ _ | refine Ext.drew ?_ | refine Ext.drewN ?_ _)) E10.out)) hl0 (by omega)).mono ?_; rintro _ w11 ⟨Q0X, Q0Xc, rfl, o11, e11⟩
      refine ⟨_, rfl, hK _ _ e11.ex ?_⟩; clear hK K
      have NEWXQ0X := hid (own_ne WX_10.out o11 (Nat.le_refl _)); have NEQ0XWX := hid (own_ne' WX_10.out o11 (Nat.le_refl _))
      have NEI0XQ0X := hid (own_ne I0X_10.out o11 (Nat.le_refl _)); have NEQ0XI0X := hid (own_ne' I0X_10.out o11 (Nat.le_refl _))
      have NEI1XQ0X := hid (own_ne I1X_10.out o11 (Nat.le_refl _)); have NEQ0XI1X := hid (own_ne' I1X_10.out o11 (Nat.le_refl _))
      have NEGXQ0X := hid (own_ne GX_10.out o11 (Nat.le_refl _)); have NEQ0XGX := hid (own_ne' GX_10.out o11 (Nat.le_refl _))
      have BQ0X := hid E10.out.size
      have E11 := hid (E10.out.trans e11)
      have WX_11 := hid (own_ext WX_10.out e11)
      have I0X_11 := hid (own_ext I0X_10.out e11)
      have I1X_11 := hid (own_ext I1X_10.out e11)
      have GX_11 := hid (own_ext GX_10.out e11)
      have Q0X_11 := hid o11
      have bx0p_11 := old_cell e11 bx0p_10
      clear bx0p_10
      have bx0q_11 := old_cell e11 bx0q_10
      clear bx0q_10
      clear E10 WX_10 I0X_10 I1X_10 GX_10 e11 o11
      refine wpT_step (fun w12 hw12 K hK => ?_)
      have e12 := later_ext hw12; clear hw12
      have E12 := hid (E11.out.trans e12)
      have WX_12 := hid (own_ext WX_11.out e12)
      have I0X_12 := hid (own_ext I0X_11.out e12)
      have I1X_12 := hid (own_ext I1X_11.out e12)
      have GX_12 := hid (own_ext GX_11.out e12)
      have Q0X_12 := hid (own_ext Q0X_11.out e12)
      have bx0p_12 := old_cell e12 bx0p_11
      clear bx0p_11
      have bx0q_12 := old_cell e12 bx0q_11
      clear bx0q_11
      clear E11 WX_11 I0X_11 I1X_11 GX_11 Q0X_11 e12
      go_simp
      refine (eqHouse_same q0 I0X Q0X n0 I0Xc Q0Xc l0 w12 (Row.of_own I0X_12.out) (Row.of_own Q0X_12.out) hl0 (by omega)).mono ?_; rintro _ w13 ⟨rfl, e13⟩
      refine ⟨_, rfl, hK _ _ e13.ex ?_⟩; clear hK K
      have E13 := hid (E12.out.trans e13)
      have WX_13 := hid (own_ext WX_12.out e13)
      have I0X_13 := hid (own_ext I0X_12.out e13)
      have I1X_13 := hid (own_ext I1X_12.out e13)
      have GX_13 := hid (own_ext GX_12.out e13)
      have Q0X_13 := hid (own_ext Q0X_12.out e13)
      have bx0p_13 := old_cell e13 bx0p_12
      clear bx0p_12
      have bx0q_13 := old_cell e13 bx0q_12
      clear bx0q_12
      clear E12 WX_12 I0X_12 I1X_12 GX_12 Q0X_12 e13
      refine wpT_step (fun w14 hw14 K hK => ?_)
      have e14 := later_ext hw14; clear hw14
      have E14 := hid (E13.out.trans e14)
      have WX_14 := hid (own_ext WX_13.out e14)
      have I0X_14 := hid (own_ext I0X_13.out e14)
      have I1X_14 := hid (own_ext I1X_13.out e14)
      have GX_14 := hid (own_ext GX_13.out e14)
      have Q0X_14 := hid (own_ext Q0X_13.out e14)
      have bx0p_14 := old_cell e14 bx0p_13
      clear bx0p_13
      have bx0q_14 := old_cell e14 bx0q_13
      clear bx0q_13
      clear E13 WX_13 I0X_13 I1X_13 GX_13 Q0X_13 e14
      go_simp; refine hK _ _ (Ext.ex (Ext.refl w14)) ?_; clear hK K
      refine wpT_nil (fun w15 hw15 => ?_)
      have e15 := later_ext hw15; clear hw15
      have E15 := hid (E14.out.trans e15)
      have WX_15 := hid (own_ext WX_14.out e15)
      have I0X_15 := hid (own_ext I0X_14.out e15)
      have I1X_15 := hid (own_ext I1X_14.out e15)
      have GX_15 := hid (own_ext GX_14.out e15)
      have Q0X_15 := hid (own_ext Q0X_14.out e15)
      have bx0p_15 := old_cell e15 bx0p_14
      clear bx0p_14
      have bx0q_15 := old_cell e15 bx0q_14
      clear bx0q_14
      clear E14 WX_14 I0X_14 I1X_14 GX_14 Q0X_14 e15
      clear Q0X_15
      go_wp2_with fail
      refine (toIntS_any A1 n1 c1 l1 w15 (hr1.ext (Ext.trans (by repeat (first | exact Ext.refl _ | refine Ext.alloc ?_ _ | assumption | refine Ext.over ?_ _ | refine Ext.drew ?_ | refine Ext.drewN ?_ _)) E15.out)) hl1 (by omega)).mono ?_; rintro _ w16 ⟨Q1X, Q1Xc, rfl, o16, e16⟩
      have NEWXQ1X := hid (own_ne WX_15.out o16 (Nat.le_refl _)); have NEQ1XWX := hid (own_ne' WX_15.out o16 (Nat.le_refl _))
      have NEI0XQ1X := hid (own_ne I0X_15.out o16 (Nat.le_refl _)); have NEQ1XI0X := hid (own_ne' I0X_15.out o16 (Nat.le_refl _))
      have NEI1XQ1X := hid (own_ne I1X_15.out o16 (Nat.le_refl _)); have NEQ1XI1X := hid (own_ne' I1X_15.out o16 (Nat.le_refl _))
      have NEGXQ1X := hid (own_ne GX_15.out o16 (Nat.le_refl _)); have NEQ1XGX := hid (own_ne' GX_15.out o16 (Nat.le_refl _))
      have BQ1X := hid E15.out.size
      have E16 := hid (E15.out.trans e16)
      have WX_16 := hid (own_ext WX_15.out e16)
      have I0X_16 := hid (own_ext I0X_15.out e16)
      have I1X_16 := hid (own_ext I1X_15.out e16)
      have GX_16 := hid (own_ext GX_15.out e16)
      have Q1X_16 := hid o16
      have bx0p_16 := old_cell e16 bx0p_15
      clear bx0p_15
      have bx0q_16 := old_cell e16 bx0q_15
      clear bx0q_15
      clear E15 WX_15 I0X_15 I1X_15 GX_15 e16 o16
      go_wp2_with fail
      refine (eqIntS_same  I1X Q1X n1 I1Xc Q1Xc l1 w16 (Row.of_own I1X_16.out) (Row.of_own Q1X_16.out) hl1 (by omega)).mono ?_; rintro _ w17 ⟨rfl, e17⟩
      have E17 := hid (E16.out.trans e17)
      have WX_17 := hid (own_ext WX_16.out e17)
      have I0X_17 := hid (own_ext I0X_16.out e17)
      have I1X_17 := hid (own_ext I1X_16.out e17)
      have GX_17 := hid (own_ext GX_16.out e17)
      have Q1X_17 := hid (own_ext Q1X_16.out e17)
      have bx0p_17 := old_cell e17 bx0p_16
      clear bx0p_16
      have bx0q_17 := old_cell e17 bx0q_16
      clear bx0q_16
      clear E16 WX_16 I0X_16 I1X_16 GX_16 Q1X_16 e17
      clear Q1X_17
      go_wp2_with fail
      try clear bx0p_17
      try clear bx0q_17
      refine (markHouse_any q0 I0X n0 I0Xc _ _ (1) w17 I0X_17.out (by omega) (by omega) (by omega)).mono ?_; rintro _ w18 ⟨rfl, g18, s18, o18⟩
      have E18 := hid (grown_ext E17.out I0X_17.out BI0X.out g18)
      have WX_18 := hid (WX_17.out.kept g18 NEWXI0X.out)
      have I0X_18 := hid o18
      have I1X_18 := hid (I1X_17.out.kept g18 NEI1XI0X.out)
      have GX_18 := hid (GX_17.out.kept g18 NEGXI0X.out)
      clear E17 WX_17 I0X_17 I1X_17 GX_17 g18 s18 o18
      clear I0X_18
      go_wp2_with fail
      refine (markIntS_any  I1X n1 I1Xc _ _ (1 + 2 * n0) w18 I1X_18.out (by omega) (by omega) (by omega)).mono ?_; rintro _ w19 ⟨rfl, g19, s19, o19⟩
      have E19 := hid (grown_ext E18.out I1X_18.out BI1X.out g19)
      have WX_19 := hid (WX_18.out.kept g19 NEWXI1X.out)
      have I1X_19 := hid o19
      have GX_19 := hid (GX_18.out.kept g19 NEGXI1X.out)
      clear E18 WX_18 I1X_18 GX_18 g19 s19 o19
      clear I1X_19
      have hk : ¬ ((((1 : Int) + 2 * n0 + n1) : Int) < 0) := by omega
      go_wp2_with fail
      refine (eqIntS_same GX WX mg GXc WXc (guardsOf q0 l0 l1) w19 (Row.of_own GX_19.out) (Row.of_own WX_19.out) hm' (by omega)).mono ?_; rintro _ w20 ⟨rfl, e20⟩
      have E20 := hid (E19.out.trans e20)
      have WX_20 := hid (own_ext WX_19.out e20)
      have GX_20 := hid (own_ext GX_19.out e20)
      clear E19 WX_19 GX_19 e20
      go_wp2_with fail
      refine (markIntS_any GX mg GXc _ _ 1 w20 GX_20.out (by omega) (by omega) (by omega)).mono ?_; rintro _ w21 ⟨rfl, g21, s21, o21⟩
      have E21 := hid (grown_ext E20.out GX_20.out BGX.out g21)
      have WX_21 := hid (WX_20.out.kept g21 NEWXGX.out)
      have GX_21 := hid o21
      clear E20 WX_20 GX_20 g21 s21 o21
      go_wp2_with fail
      refine (heldIntS_ok GX mg GXc 1 w21 (Row.of_own GX_21.out) (by omega) (by omega) (by omega)).mono ?_; rintro _ w22 ⟨rfl, e22⟩
      have E22 := hid (E21.out.trans e22)
      have WX_22 := hid (own_ext WX_21.out e22)
      have GX_22 := hid (own_ext GX_21.out e22)
      clear E21 WX_21 GX_21 e22
      have hq : ¬ ((1 : Int) + mg < 0) := by omega
      obtain ⟨xw22, hxw22⟩ := E22.out.ex; subst hxw22
      go_wp2_with fail
      refine (toHouse_any q0 A0 n0 c0 l0 _ (hr0.ext (Ext.trans (by repeat (first | exact Ext.refl _ | refine Ext.alloc ?_ _ | assumption | refine Ext.over ?_ _ | refine Ext.drew ?_ | refine Ext.drewN ?_ _)) E22.out)) hl0 (by omega)).mono ?_; rintro _ w23 ⟨H0X, H0Xc, rfl, o23, e23⟩
      have NEWXH0X := hid (own_ne WX_22.out o23 (Nat.le_refl _)); have NEH0XWX := hid (own_ne' WX_22.out o23 (Nat.le_refl _))
      have NEGXH0X := hid (own_ne GX_22.out o23 (Nat.le_refl _)); have NEH0XGX := hid (own_ne' GX_22.out o23 (Nat.le_refl _))
      have BH0X := hid E22.out.size
      have E23 := hid (E22.out.trans e23)
      have WX_23 := hid (own_ext WX_22.out e23)
      have GX_23 := hid (own_ext GX_22.out e23)
      have H0X_23 := hid o23
      clear E22 WX_22 GX_22 e23 o23
      go_wp2_with fail
      refine (toIntS_any A1 n1 c1 l1 w23 (hr1.ext (Ext.trans (by repeat (first | exact Ext.refl _ | refine Ext.alloc ?_ _ | assumption | refine Ext.over ?_ _ | refine Ext.drew ?_ | refine Ext.drewN ?_ _)) E23.out)) hl1 (by omega)).mono ?_; rintro _ w24 ⟨H1X, H1Xc, rfl, o24, e24⟩
      have NEWXH1X := hid (own_ne WX_23.out o24 (Nat.le_refl _)); have NEH1XWX := hid (own_ne' WX_23.out o24 (Nat.le_refl _))
      have NEGXH1X := hid (own_ne GX_23.out o24 (Nat.le_refl _)); have NEH1XGX := hid (own_ne' GX_23.out o24 (Nat.le_refl _))
      have NEH0XH1X := hid (own_ne H0X_23.out o24 (Nat.le_refl _)); have NEH1XH0X := hid (own_ne' H0X_23.out o24 (Nat.le_refl _))
      have BH1X := hid E23.out.size
      have E24 := hid (E23.out.trans e24)
      have WX_24 := hid (own_ext WX_23.out e24)
      have GX_24 := hid (own_ext GX_23.out e24)
      have H0X_24 := hid (own_ext H0X_23.out e24)
      have H1X_24 := hid o24
      clear E23 WX_23 GX_23 H0X_23 e24 o24
      go_wp2_with fail
      refine (iAfter_any q0 H0X n0 H0Xc l0 H1X n1 H1Xc l1 w24 (Row.of_own H0X_24.out) hl0 (by omega) (Row.of_own H1X_24.out) hl1 (by omega)).mono ?_; rintro _ w25 ⟨HX, mh, HXc, rfl, o25, e25⟩
      have hmh := own_len o25; obtain rfl : mg = mh := by omega
      have NEWXHX := hid (own_ne WX_24.out o25 (Nat.le_refl _)); have NEHXWX := hid (own_ne' WX_24.out o25 (Nat.le_refl _))
      have NEGXHX := hid (own_ne GX_24.out o25 (Nat.le_refl _)); have NEHXGX := hid (own_ne' GX_24.out o25 (Nat.le_refl _))
      have NEH0XHX := hid (own_ne H0X_24.out o25 (Nat.le_refl _)); have NEHXH0X := hid (own_ne' H0X_24.out o25 (Nat.le_refl _))
      have NEH1XHX := hid (own_ne H1X_24.out o25 (Nat.le_refl _)); have NEHXH1X := hid (own_ne' H1X_24.out o25 (Nat.le_refl _))
      have BHX := hid E24.out.size
      have E25 := hid (E24.out.trans e25)
      have WX_25 := hid (own_ext WX_24.out e25)
      have GX_25 := hid (own_ext GX_24.out e25)
      have H0X_25 := hid (own_ext H0X_24.out e25)
      have H1X_25 := hid (own_ext H1X_24.out e25)
      have HX_25 := hid o25
      clear E24 WX_24 GX_24 H0X_24 H1X_24 e25 o25
      clear H0X_25
      clear H1X_25
      go_wp2_with fail
      refine (eqIntS_same HX WX mg HXc WXc (guardsOf q0 l0 l1) w25 (Row.of_own HX_25.out) (Row.of_own WX_25.out) hm' (by omega)).mono ?_; rintro _ w26 ⟨rfl, e26⟩
      have E26 := hid (E25.out.trans e26)
      have WX_26 := hid (own_ext WX_25.out e26)
      have GX_26 := hid (own_ext GX_25.out e26)
      have HX_26 := hid (own_ext HX_25.out e26)
      clear E25 WX_25 GX_25 HX_25 e26
      go_wp2_with fail
      refine (heldIntS_ok GX mg GXc 1 w26 (Row.of_own GX_26.out) (by omega) (by omega) (by omega)).mono ?_; rintro _ w27 ⟨rfl, e27⟩
      have E27 := hid (E26.out.trans e27)
      have WX_27 := hid (own_ext WX_26.out e27)
      have GX_27 := hid (own_ext GX_26.out e27)
      have HX_27 := hid (own_ext HX_26.out e27)
      clear E26 WX_26 GX_26 HX_26 e27
      go_wp2_with fail
      go_ret
      exact ⟨rfl, Ext.trans (by repeat (first | exact Ext.refl _ | refine Ext.alloc ?_ _ | assumption | refine Ext.over ?_ _ | refine Ext.drew ?_ | refine Ext.drewN ?_ _)) E27.out⟩
    · (unfold Gives; go_enter Try.func5, Try.ntmps5)
      go_wp2_with fail
      refine (szHouse_no q0 A0 n0 c0 (1048576) _ (by omega) (by omega) (by omega) (by omega)).mono ?_; rintro _ w1 ⟨rfl, e1⟩
      have E1 := hid e1
      clear e1
      go_wp2_with fail
      go_ret
      exact ⟨rfl, Ext.trans (by repeat (first | exact Ext.refl _ | refine Ext.alloc ?_ _ | assumption | refine Ext.over ?_ _ | refine Ext.drew ?_ | refine Ext.drewN ?_ _)) E1.out⟩
  · (unfold Gives; go_enter Try.func5, Try.ntmps5)
    go_wp2_with fail
    go_ret
    refine ⟨rfl, ?_⟩; repeat (first | exact Ext.refl _ | refine Ext.alloc ?_ _ | assumption | refine Ext.over ?_ _ | refine Ext.drew ?_ | refine Ext.drewN ?_ _)

end fnExactGuardsAfter
end Go.Proofs.Ytnkdafdafgjicaa
