/- The walk of FnExactSeenOn: it returns true. Conditions: its arguments read as lists.  -/
import Derived.Test.YtjjiadjnbpfpdaaSeen
import Derived.Test.YtjjiadjnbpfpdaaHelpR
import Derived.Test.YtjjiadjnbpfpdaaHelpRM
import Derived.Test.YtjjiadjnbpfpdaaHelpEq
import Derived.Test.YtjjiadjnbpfpdaaHelpM
import Derived.Test.YtjjiadjnbpfpdaaHer
namespace Go.Proofs.Ytjjiadjnbpfpdaa
open Go.RowKit
set_option linter.unusedVariables false
namespace fnExactSeenOn
set_option maxHeartbeats 3200000 in
set_option maxRecDepth 100000 in
theorem walk (w : World) (A0 : Option Addr) (n0 c0 : Nat) (l0 : List T2) (hr0 : Row w A0 (l0.flatMap T2.v)) (hl0 : l0.length = n0) (hn0 : n0 ≤ maxLen) (hok0 : ∀ x ∈ l0, x.ok) (A1 : Option Addr) (n1 c1 : Nat) (l1 : List T2) (hr1 : Row w A1 (l1.flatMap T2.v)) (hl1 : l1.length = n1) (hn1 : n1 ≤ maxLen) (hok1 : ∀ x ∈ l1, x.ok) (x2a : Int) (x2b : Int) (hx2a : i64r x2a) (hx2b : i64r x2b) : Gives Try.prog 5 #[.agg #[.slice A0 n0 c0], .slice A1 n1 c1, .agg #[.int .i64 x2a, .int .i64 x2b]] w (.bool true) := by
  unfold maxLen at hn0
  unfold maxLen at hn1
  by_cases hbig0 : (n0 : Int) ≤ 1048576
  · by_cases hbig1 : (n1 : Int) ≤ 1048576 - n0
    · have hlen : (seenL l0 l1 (⟨x2a, x2b⟩ : T2)).length ≤ 8388608 := by have := seenL_len l0 l1 (⟨x2a, x2b⟩ : T2); omega
      (unfold Gives; go_enter Try.func5, Try.ntmps5)
      go_wp2_with fail
      refine (szRoom_ok  A0 n0 c0 (1048576) _ (by omega) (by omega)).mono ?_; rintro _ w1 ⟨rfl, e1⟩
      have E1 := hid e1
      clear e1
      have hb0 : ¬ ((((1048576 : Int) - n0) : Int) < 0) := by omega
      go_wp2_with fail
      refine (szPointS_ok  A1 n1 c1 (1048576 - n0) w1 (by omega) (by omega)).mono ?_; rintro _ w2 ⟨rfl, e2⟩
      have E2 := hid (E1.out.trans e2)
      clear E1 e2
      have hb1 : ¬ ((((1048576 : Int) - n0 - n1) : Int) < 0) := by omega
      obtain ⟨xw2, hxw2⟩ := E2.out.ex; subst hxw2
      go_wp2_with fail
      refine wp_region_her [true, false, true, false, true, false, false, false] (by kernel_rfl) (by kernel_rfl) ?_
      simp only [selB, notB, List.map_cons, List.map_nil, Bool.not_true, Bool.not_false]
      repeat (refine wpH_step (fun K hK => ?_); go_simp; refine hK _ ?_; clear hK K)
      refine wpH_nil ?_
      refine wpT_step (fun w3 hw3 K hK => ?_)
      have e3 := later_ext hw3; clear hw3
      have E3 := hid (E2.out.trans e3)
      clear E2 e3
      go_simp
      refine (toRoom_any A0 n0 c0 l0 w3 (hr0.ext (Ext.trans (by repeat (first | exact Ext.refl _ | refine Ext.alloc ?_ _ | assumption | refine Ext.over ?_ _ | refine Ext.drew ?_ | refine Ext.drewN ?_ _)) E3.out)) hl0 (by omega)).mono ?_; rintro _ w4 ⟨S0X, S0Xc, rfl, o4, e4⟩
      refine ⟨_, rfl, hK _ _ e4.ex ?_⟩; clear hK K
      have BS0X := hid E3.out.size
      have E4 := hid (E3.out.trans e4)
      have S0X_4 := hid o4
      clear E3 e4 o4
      refine wpT_step (fun w5 hw5 K hK => ?_)
      have e5 := later_ext hw5; clear hw5
      have E5 := hid (E4.out.trans e5)
      have S0X_5 := hid (own_ext S0X_4.out e5)
      clear E4 S0X_4 e5
      go_simp
      refine (toPointS_any A1 n1 c1 l1 w5 (hr1.ext (Ext.trans (by repeat (first | exact Ext.refl _ | refine Ext.alloc ?_ _ | assumption | refine Ext.over ?_ _ | refine Ext.drew ?_ | refine Ext.drewN ?_ _)) E5.out)) hl1 (by omega)).mono ?_; rintro _ w6 ⟨S1X, S1Xc, rfl, o6, e6⟩
      refine ⟨_, rfl, hK _ _ e6.ex ?_⟩; clear hK K
      have NES0XS1X := hid (own_ne S0X_5.out o6 (Nat.le_refl _)); have NES1XS0X := hid (own_ne' S0X_5.out o6 (Nat.le_refl _))
      have BS1X := hid E5.out.size
      have E6 := hid (E5.out.trans e6)
      have S0X_6 := hid (own_ext S0X_5.out e6)
      have S1X_6 := hid o6
      clear E5 S0X_5 e6 o6
      refine wpT_step (fun w7 hw7 K hK => ?_)
      have e7 := later_ext hw7; clear hw7
      have E7 := hid (E6.out.trans e7)
      have S0X_7 := hid (own_ext S0X_6.out e7)
      have S1X_7 := hid (own_ext S1X_6.out e7)
      clear E6 S0X_6 S1X_6 e7
      go_simp
      refine (toPoint_any x2a x2b w7).mono ?_; rintro _ w8 ⟨rfl, e8⟩
      refine ⟨_, rfl, hK _ _ e8.ex ?_⟩; clear hK K
      have E8 := hid (E7.out.trans e8)
      have S0X_8 := hid (own_ext S0X_7.out e8)
      have S1X_8 := hid (own_ext S1X_7.out e8)
      clear E7 S0X_7 S1X_7 e8
      refine wpT_step (fun w9 hw9 K hK => ?_)
      have e9 := later_ext hw9; clear hw9
      have E9 := hid (E8.out.trans e9)
      have S0X_9 := hid (own_ext S0X_8.out e9)
      have S1X_9 := hid (own_ext S1X_8.out e9)
      clear E8 S0X_8 S1X_8 e9
      go_simp
      refine (sSeenOn_at S0X n0 S0Xc l0 S1X n1 S1Xc l1 x2a x2b w9 (Row.of_own S0X_9.out) hl0 (by omega) (Row.of_own S1X_9.out) hl1 (by omega)).mono ?_; rintro _ w10 ⟨WX, mw, WXc, rfl, o10, e10⟩
      refine ⟨_, rfl, hK _ _ e10.ex ?_⟩; clear hK K
      have hm := own_len o10
      have NES0XWX := hid (own_ne S0X_9.out o10 (Nat.le_refl _)); have NEWXS0X := hid (own_ne' S0X_9.out o10 (Nat.le_refl _))
      have NES1XWX := hid (own_ne S1X_9.out o10 (Nat.le_refl _)); have NEWXS1X := hid (own_ne' S1X_9.out o10 (Nat.le_refl _))
      have BWX := hid E9.out.size
      have E10 := hid (E9.out.trans e10)
      have S0X_10 := hid (own_ext S0X_9.out e10)
      have S1X_10 := hid (own_ext S1X_9.out e10)
      have WX_10 := hid o10
      clear E9 S0X_9 S1X_9 e10 o10
      refine wpT_step (fun w11 hw11 K hK => ?_)
      have e11 := later_ext hw11; clear hw11
      have E11 := hid (E10.out.trans e11)
      have S0X_11 := hid (own_ext S0X_10.out e11)
      have S1X_11 := hid (own_ext S1X_10.out e11)
      have WX_11 := hid (own_ext WX_10.out e11)
      clear E10 S0X_10 S1X_10 WX_10 e11
      go_simp; refine hK _ _ (Ext.ex (Ext.refl w11)) ?_; clear hK K
      refine wpT_nil (fun w12 hw12 => ?_)
      have e12 := later_ext hw12; clear hw12
      have E12 := hid (E11.out.trans e12)
      have S0X_12 := hid (own_ext S0X_11.out e12)
      have S1X_12 := hid (own_ext S1X_11.out e12)
      have WX_12 := hid (own_ext WX_11.out e12)
      clear E11 S0X_11 S1X_11 WX_11 e12
      clear S0X_12
      clear S1X_12
      obtain ⟨xw12, hxw12⟩ := E12.out.ex; subst hxw12
      go_wp2_with fail
      refine (toRoom_any A0 n0 c0 l0 _ (hr0.ext (Ext.trans (by repeat (first | exact Ext.refl _ | refine Ext.alloc ?_ _ | assumption | refine Ext.over ?_ _ | refine Ext.drew ?_ | refine Ext.drewN ?_ _)) E12.out)) hl0 (by omega)).mono ?_; rintro _ w13 ⟨I0X, I0Xc, rfl, o13, e13⟩
      have NEWXI0X := hid (own_ne WX_12.out o13 (Nat.le_refl _)); have NEI0XWX := hid (own_ne' WX_12.out o13 (Nat.le_refl _))
      have BI0X := hid E12.out.size
      have E13 := hid (E12.out.trans e13)
      have WX_13 := hid (own_ext WX_12.out e13)
      have I0X_13 := hid o13
      clear E12 WX_12 e13 o13
      go_wp2_with fail
      obtain ⟨w14, hw14⟩ : ∃ w14, w14 = World.alloc w13 (.cells #[.slice I0X n0 I0Xc] 30) := ⟨_, rfl⟩
      rw [← hw14]
      have e14 : Ext w13 w14 := by rw [hw14]; repeat (first | exact Ext.refl _ | refine Ext.alloc ?_ _ | assumption | refine Ext.over ?_ _ | refine Ext.drew ?_ | refine Ext.drewN ?_ _)
      have bx0p := (show w14.cell? ⟨w13.heap.size, 0, none⟩ = some (.slice I0X n0 I0Xc) by rw [hw14]; go_simp)
      clear hw14
      have E14 := hid (E13.out.trans e14)
      have WX_14 := hid (own_ext WX_13.out e14)
      have I0X_14 := hid (own_ext I0X_13.out e14)
      clear E13 WX_13 I0X_13 e14
      refine (toPointS_any A1 n1 c1 l1 w14 (hr1.ext (Ext.trans (by repeat (first | exact Ext.refl _ | refine Ext.alloc ?_ _ | assumption | refine Ext.over ?_ _ | refine Ext.drew ?_ | refine Ext.drewN ?_ _)) E14.out)) hl1 (by omega)).mono ?_; rintro _ w15 ⟨I1X, I1Xc, rfl, o15, e15⟩
      have NEWXI1X := hid (own_ne WX_14.out o15 (Nat.le_refl _)); have NEI1XWX := hid (own_ne' WX_14.out o15 (Nat.le_refl _))
      have NEI0XI1X := hid (own_ne I0X_14.out o15 (Nat.le_refl _)); have NEI1XI0X := hid (own_ne' I0X_14.out o15 (Nat.le_refl _))
      have BI1X := hid E14.out.size
      have E15 := hid (E14.out.trans e15)
      have WX_15 := hid (own_ext WX_14.out e15)
      have I0X_15 := hid (own_ext I0X_14.out e15)
      have I1X_15 := hid o15
      have bx0p_15 := old_cell e15 bx0p
      clear bx0p
      clear E14 WX_14 I0X_14 e15 o15
      obtain ⟨xw15, hxw15⟩ := E15.out.ex; subst hxw15
      go_wp2_with fail
      refine wp_region_her [true, true, true, false, false, false] (by kernel_rfl) (by kernel_rfl) ?_
      simp only [selB, notB, List.map_cons, List.map_nil, Bool.not_true, Bool.not_false]
      repeat (refine wpH_step (fun K hK => ?_); go_simp; refine hK _ ?_; clear hK K)
      refine wpH_nil ?_
      refine wpT_step (fun w16 hw16 K hK => ?_)
      have e16 := later_ext hw16; clear hw16
      have E16 := hid (E15.out.trans e16)
      have WX_16 := hid (own_ext WX_15.out e16)
      have I0X_16 := hid (own_ext I0X_15.out e16)
      have I1X_16 := hid (own_ext I1X_15.out e16)
      have bx0p_16 := old_cell e16 bx0p_15
      clear bx0p_15
      clear E15 WX_15 I0X_15 I1X_15 e16
      go_simp
      refine (toPoint_any x2a x2b w16).mono ?_; rintro _ w17 ⟨rfl, e17⟩
      refine ⟨_, rfl, hK _ _ e17.ex ?_⟩; clear hK K
      have E17 := hid (E16.out.trans e17)
      have WX_17 := hid (own_ext WX_16.out e17)
      have I0X_17 := hid (own_ext I0X_16.out e17)
      have I1X_17 := hid (own_ext I1X_16.out e17)
      have bx0p_17 := old_cell e17 bx0p_16
      clear bx0p_16
      clear E16 WX_16 I0X_16 I1X_16 e17
      refine wpT_step (fun w18 hw18 K hK => ?_)
      have e18 := later_ext hw18; clear hw18
      have E18 := hid (E17.out.trans e18)
      have WX_18 := hid (own_ext WX_17.out e18)
      have I0X_18 := hid (own_ext I0X_17.out e18)
      have I1X_18 := hid (own_ext I1X_17.out e18)
      have bx0p_18 := old_cell e18 bx0p_17
      clear bx0p_17
      clear E17 WX_17 I0X_17 I1X_17 e18
      go_simp
      refine (iSeenOn_at I0X n0 I0Xc l0 I1X n1 I1Xc l1 x2a x2b w18 (Row.of_own I0X_18.out) hl0 (by omega) (Row.of_own I1X_18.out) hl1 (by omega)).mono ?_; rintro _ w19 ⟨GX, mg, GXc, rfl, o19, e19⟩
      refine ⟨_, rfl, hK _ _ e19.ex ?_⟩; clear hK K
      have hm' := own_len o19; obtain rfl : mg = mw := by omega
      have NEWXGX := hid (own_ne WX_18.out o19 (Nat.le_refl _)); have NEGXWX := hid (own_ne' WX_18.out o19 (Nat.le_refl _))
      have NEI0XGX := hid (own_ne I0X_18.out o19 (Nat.le_refl _)); have NEGXI0X := hid (own_ne' I0X_18.out o19 (Nat.le_refl _))
      have NEI1XGX := hid (own_ne I1X_18.out o19 (Nat.le_refl _)); have NEGXI1X := hid (own_ne' I1X_18.out o19 (Nat.le_refl _))
      have BGX := hid E18.out.size
      have E19 := hid (E18.out.trans e19)
      have WX_19 := hid (own_ext WX_18.out e19)
      have I0X_19 := hid (own_ext I0X_18.out e19)
      have I1X_19 := hid (own_ext I1X_18.out e19)
      have GX_19 := hid o19
      have bx0p_19 := old_cell e19 bx0p_18
      clear bx0p_18
      clear E18 WX_18 I0X_18 I1X_18 e19 o19
      refine wpT_step (fun w20 hw20 K hK => ?_)
      have e20 := later_ext hw20; clear hw20
      have E20 := hid (E19.out.trans e20)
      have WX_20 := hid (own_ext WX_19.out e20)
      have I0X_20 := hid (own_ext I0X_19.out e20)
      have I1X_20 := hid (own_ext I1X_19.out e20)
      have GX_20 := hid (own_ext GX_19.out e20)
      have bx0p_20 := old_cell e20 bx0p_19
      clear bx0p_19
      clear E19 WX_19 I0X_19 I1X_19 GX_19 e20
      go_simp; refine hK _ _ (Ext.ex (Ext.refl w20)) ?_; clear hK K
      refine wpT_nil (fun w21 hw21 => ?_)
      have e21 := later_ext hw21; clear hw21
      have E21 := hid (E20.out.trans e21)
      have WX_21 := hid (own_ext WX_20.out e21)
      have I0X_21 := hid (own_ext I0X_20.out e21)
      have I1X_21 := hid (own_ext I1X_20.out e21)
      have GX_21 := hid (own_ext GX_20.out e21)
      have bx0p_21 := old_cell e21 bx0p_20
      clear bx0p_20
      clear E20 WX_20 I0X_20 I1X_20 GX_20 e21
      go_wp2_with fail
      refine (eqIntS_same GX WX mg GXc WXc (seenL l0 l1 (⟨x2a, x2b⟩ : T2)) w21 (Row.of_own GX_21.out) (Row.of_own WX_21.out) hm' (by omega)).mono ?_; rintro _ w22 ⟨rfl, e22⟩
      have E22 := hid (E21.out.trans e22)
      have WX_22 := hid (own_ext WX_21.out e22)
      have I0X_22 := hid (own_ext I0X_21.out e22)
      have I1X_22 := hid (own_ext I1X_21.out e22)
      have GX_22 := hid (own_ext GX_21.out e22)
      have bx0p_22 := old_cell e22 bx0p_21
      clear bx0p_21
      clear E21 WX_21 I0X_21 I1X_21 GX_21 e22
      obtain ⟨xw22, hxw22⟩ := E22.out.ex; subst hxw22
      go_wp2_with fail
      refine wp_region_her [true, true, false, false, false] (by kernel_rfl) (by kernel_rfl) ?_
      simp only [selB, notB, List.map_cons, List.map_nil, Bool.not_true, Bool.not_false]
      repeat (refine wpH_step (fun K hK => ?_); go_simp; refine hK _ ?_; clear hK K)
      refine wpH_nil ?_
      refine wpT_step (fun w23 hw23 K hK => ?_)
      have e23 := later_ext hw23; clear hw23
      have E23 := hid (E22.out.trans e23)
      have WX_23 := hid (own_ext WX_22.out e23)
      have I0X_23 := hid (own_ext I0X_22.out e23)
      have I1X_23 := hid (own_ext I1X_22.out e23)
      have GX_23 := hid (own_ext GX_22.out e23)
      have bx0p_23 := old_cell e23 bx0p_22
      clear bx0p_22
      clear E22 WX_22 I0X_22 I1X_22 GX_22 e23
      go_simp
      refine (toRoom_any A0 n0 c0 l0 w23 (hr0.ext (Ext.trans (by repeat (first | exact Ext.refl _ | refine Ext.alloc ?_ _ | assumption | refine Ext.over ?_ _ | refine Ext.drew ?_ | refine Ext.drewN ?_ _)) E23.out)) hl0 (by omega)).mono ?_; rintro _ w24 ⟨Q0X, Q0Xc, rfl, o24, e24⟩
      refine ⟨_, rfl, hK _ _ e24.ex ?_⟩; clear hK K
      have NEWXQ0X := hid (own_ne WX_23.out o24 (Nat.le_refl _)); have NEQ0XWX := hid (own_ne' WX_23.out o24 (Nat.le_refl _))
      have NEI0XQ0X := hid (own_ne I0X_23.out o24 (Nat.le_refl _)); have NEQ0XI0X := hid (own_ne' I0X_23.out o24 (Nat.le_refl _))
      have NEI1XQ0X := hid (own_ne I1X_23.out o24 (Nat.le_refl _)); have NEQ0XI1X := hid (own_ne' I1X_23.out o24 (Nat.le_refl _))
      have NEGXQ0X := hid (own_ne GX_23.out o24 (Nat.le_refl _)); have NEQ0XGX := hid (own_ne' GX_23.out o24 (Nat.le_refl _))
      have BQ0X := hid E23.out.size
      have E24 := hid (E23.out.trans e24)
      have WX_24 := hid (own_ext WX_23.out e24)
      have I0X_24 := hid (own_ext I0X_23.out e24)
      have I1X_24 := hid (own_ext I1X_23.out e24)
      have GX_24 := hid (own_ext GX_23.out e24)
      have Q0X_24 := hid o24
      have bx0p_24 := old_cell e24 bx0p_23
      clear bx0p_23
      clear E23 WX_23 I0X_23 I1X_23 GX_23 e24 o24
      refine wpT_step (fun w25 hw25 K hK => ?_)
      have e25 := later_ext hw25; clear hw25
      have E25 := hid (E24.out.trans e25)
      have WX_25 := hid (own_ext WX_24.out e25)
      have I0X_25 := hid (own_ext I0X_24.out e25)
      have I1X_25 := hid (own_ext I1X_24.out e25)
      have GX_25 := hid (own_ext GX_24.out e25)
      have Q0X_25 := hid (own_ext Q0X_24.out e25)
      have bx0p_25 := old_cell e25 bx0p_24
      clear bx0p_24
      clear E24 WX_24 I0X_24 I1X_24 GX_24 Q0X_24 e25
      go_simp
      refine (eqRoom_same  I0X Q0X n0 I0Xc Q0Xc l0 w25 (Row.of_own I0X_25.out) (Row.of_own Q0X_25.out) hl0 (by omega)).mono ?_; rintro _ w26 ⟨rfl, e26⟩
      refine ⟨_, rfl, hK _ _ e26.ex ?_⟩; clear hK K
      have E26 := hid (E25.out.trans e26)
      have WX_26 := hid (own_ext WX_25.out e26)
      have I0X_26 := hid (own_ext I0X_25.out e26)
      have I1X_26 := hid (own_ext I1X_25.out e26)
      have GX_26 := hid (own_ext GX_25.out e26)
      have Q0X_26 := hid (own_ext Q0X_25.out e26)
      have bx0p_26 := old_cell e26 bx0p_25
      clear bx0p_25
      clear E25 WX_25 I0X_25 I1X_25 GX_25 Q0X_25 e26
      refine wpT_step (fun w27 hw27 K hK => ?_)
      have e27 := later_ext hw27; clear hw27
      have E27 := hid (E26.out.trans e27)
      have WX_27 := hid (own_ext WX_26.out e27)
      have I0X_27 := hid (own_ext I0X_26.out e27)
      have I1X_27 := hid (own_ext I1X_26.out e27)
      have GX_27 := hid (own_ext GX_26.out e27)
      have Q0X_27 := hid (own_ext Q0X_26.out e27)
      have bx0p_27 := old_cell e27 bx0p_26
      clear bx0p_26
      clear E26 WX_26 I0X_26 I1X_26 GX_26 Q0X_26 e27
      go_simp; refine hK _ _ (Ext.ex (Ext.refl w27)) ?_; clear hK K
      refine wpT_nil (fun w28 hw28 => ?_)
      have e28 := later_ext hw28; clear hw28
      have E28 := hid (E27.out.trans e28)
      have WX_28 := hid (own_ext WX_27.out e28)
      have I0X_28 := hid (own_ext I0X_27.out e28)
      have I1X_28 := hid (own_ext I1X_27.out e28)
      have GX_28 := hid (own_ext GX_27.out e28)
      have Q0X_28 := hid (own_ext Q0X_27.out e28)
      have bx0p_28 := old_cell e28 bx0p_27
      clear bx0p_27
      clear E27 WX_27 I0X_27 I1X_27 GX_27 Q0X_27 e28
      clear Q0X_28
      go_wp2_with fail
      refine (toPointS_any A1 n1 c1 l1 w28 (hr1.ext (Ext.trans (by repeat (first | exact Ext.refl _ | refine Ext.alloc ?_ _ | assumption | refine Ext.over ?_ _ | refine Ext.drew ?_ | refine Ext.drewN ?_ _)) E28.out)) hl1 (by omega)).mono ?_; rintro _ w29 ⟨Q1X, Q1Xc, rfl, o29, e29⟩
      have NEWXQ1X := hid (own_ne WX_28.out o29 (Nat.le_refl _)); have NEQ1XWX := hid (own_ne' WX_28.out o29 (Nat.le_refl _))
      have NEI0XQ1X := hid (own_ne I0X_28.out o29 (Nat.le_refl _)); have NEQ1XI0X := hid (own_ne' I0X_28.out o29 (Nat.le_refl _))
      have NEI1XQ1X := hid (own_ne I1X_28.out o29 (Nat.le_refl _)); have NEQ1XI1X := hid (own_ne' I1X_28.out o29 (Nat.le_refl _))
      have NEGXQ1X := hid (own_ne GX_28.out o29 (Nat.le_refl _)); have NEQ1XGX := hid (own_ne' GX_28.out o29 (Nat.le_refl _))
      have BQ1X := hid E28.out.size
      have E29 := hid (E28.out.trans e29)
      have WX_29 := hid (own_ext WX_28.out e29)
      have I0X_29 := hid (own_ext I0X_28.out e29)
      have I1X_29 := hid (own_ext I1X_28.out e29)
      have GX_29 := hid (own_ext GX_28.out e29)
      have Q1X_29 := hid o29
      have bx0p_29 := old_cell e29 bx0p_28
      clear bx0p_28
      clear E28 WX_28 I0X_28 I1X_28 GX_28 e29 o29
      go_wp2_with fail
      refine (eqPointS_same  I1X Q1X n1 I1Xc Q1Xc l1 w29 (Row.of_own I1X_29.out) (Row.of_own Q1X_29.out) hl1 (by omega)).mono ?_; rintro _ w30 ⟨rfl, e30⟩
      have E30 := hid (E29.out.trans e30)
      have WX_30 := hid (own_ext WX_29.out e30)
      have I0X_30 := hid (own_ext I0X_29.out e30)
      have I1X_30 := hid (own_ext I1X_29.out e30)
      have GX_30 := hid (own_ext GX_29.out e30)
      have Q1X_30 := hid (own_ext Q1X_29.out e30)
      have bx0p_30 := old_cell e30 bx0p_29
      clear bx0p_29
      clear E29 WX_29 I0X_29 I1X_29 GX_29 Q1X_29 e30
      clear Q1X_30
      go_wp2_with fail
      try clear bx0p_30
      refine (markRoom_any  I0X n0 I0Xc _ _ (1) w30 I0X_30.out (by omega) (by omega) (by omega)).mono ?_; rintro _ w31 ⟨rfl, g31, s31, o31⟩
      have E31 := hid (grown_ext E30.out I0X_30.out BI0X.out g31)
      have WX_31 := hid (WX_30.out.kept g31 NEWXI0X.out)
      have I0X_31 := hid o31
      have I1X_31 := hid (I1X_30.out.kept g31 NEI1XI0X.out)
      have GX_31 := hid (GX_30.out.kept g31 NEGXI0X.out)
      clear E30 WX_30 I0X_30 I1X_30 GX_30 g31 s31 o31
      clear I0X_31
      go_wp2_with fail
      refine (markPointS_any  I1X n1 I1Xc _ _ (1 + 2 * n0) w31 I1X_31.out (by omega) (by omega) (by omega)).mono ?_; rintro _ w32 ⟨rfl, g32, s32, o32⟩
      have E32 := hid (grown_ext E31.out I1X_31.out BI1X.out g32)
      have WX_32 := hid (WX_31.out.kept g32 NEWXI1X.out)
      have I1X_32 := hid o32
      have GX_32 := hid (GX_31.out.kept g32 NEGXI1X.out)
      clear E31 WX_31 I1X_31 GX_31 g32 s32 o32
      clear I1X_32
      have hk : ¬ ((((1 : Int) + 2 * n0 + 2 * n1) : Int) < 0) := by omega
      go_wp2_with fail
      refine (eqIntS_same GX WX mg GXc WXc (seenL l0 l1 (⟨x2a, x2b⟩ : T2)) w32 (Row.of_own GX_32.out) (Row.of_own WX_32.out) hm' (by omega)).mono ?_; rintro _ w33 ⟨rfl, e33⟩
      have E33 := hid (E32.out.trans e33)
      have WX_33 := hid (own_ext WX_32.out e33)
      have GX_33 := hid (own_ext GX_32.out e33)
      clear E32 WX_32 GX_32 e33
      go_wp2_with fail
      refine (markIntS_any GX mg GXc _ _ 1 w33 GX_33.out (by omega) (by omega) (by omega)).mono ?_; rintro _ w34 ⟨rfl, g34, s34, o34⟩
      have E34 := hid (grown_ext E33.out GX_33.out BGX.out g34)
      have WX_34 := hid (WX_33.out.kept g34 NEWXGX.out)
      have GX_34 := hid o34
      clear E33 WX_33 GX_33 g34 s34 o34
      go_wp2_with fail
      refine (heldIntS_ok GX mg GXc 1 w34 (Row.of_own GX_34.out) (by omega) (by omega) (by omega)).mono ?_; rintro _ w35 ⟨rfl, e35⟩
      have E35 := hid (E34.out.trans e35)
      have WX_35 := hid (own_ext WX_34.out e35)
      have GX_35 := hid (own_ext GX_34.out e35)
      clear E34 WX_34 GX_34 e35
      have hq : ¬ ((1 : Int) + mg < 0) := by omega
      obtain ⟨xw35, hxw35⟩ := E35.out.ex; subst hxw35
      go_wp2_with fail
      refine wp_region_her [true, false, true, false, true, false, false, false] (by kernel_rfl) (by kernel_rfl) ?_
      simp only [selB, notB, List.map_cons, List.map_nil, Bool.not_true, Bool.not_false]
      repeat (refine wpH_step (fun K hK => ?_); go_simp; refine hK _ ?_; clear hK K)
      refine wpH_nil ?_
      refine wpT_step (fun w36 hw36 K hK => ?_)
      have e36 := later_ext hw36; clear hw36
      have E36 := hid (E35.out.trans e36)
      have WX_36 := hid (own_ext WX_35.out e36)
      have GX_36 := hid (own_ext GX_35.out e36)
      clear E35 WX_35 GX_35 e36
      go_simp
      refine (toRoom_any A0 n0 c0 l0 w36 (hr0.ext (Ext.trans (by repeat (first | exact Ext.refl _ | refine Ext.alloc ?_ _ | assumption | refine Ext.over ?_ _ | refine Ext.drew ?_ | refine Ext.drewN ?_ _)) E36.out)) hl0 (by omega)).mono ?_; rintro _ w37 ⟨H0X, H0Xc, rfl, o37, e37⟩
      refine ⟨_, rfl, hK _ _ e37.ex ?_⟩; clear hK K
      have NEWXH0X := hid (own_ne WX_36.out o37 (Nat.le_refl _)); have NEH0XWX := hid (own_ne' WX_36.out o37 (Nat.le_refl _))
      have NEGXH0X := hid (own_ne GX_36.out o37 (Nat.le_refl _)); have NEH0XGX := hid (own_ne' GX_36.out o37 (Nat.le_refl _))
      have BH0X := hid E36.out.size
      have E37 := hid (E36.out.trans e37)
      have WX_37 := hid (own_ext WX_36.out e37)
      have GX_37 := hid (own_ext GX_36.out e37)
      have H0X_37 := hid o37
      clear E36 WX_36 GX_36 e37 o37
      refine wpT_step (fun w38 hw38 K hK => ?_)
      have e38 := later_ext hw38; clear hw38
      have E38 := hid (E37.out.trans e38)
      have WX_38 := hid (own_ext WX_37.out e38)
      have GX_38 := hid (own_ext GX_37.out e38)
      have H0X_38 := hid (own_ext H0X_37.out e38)
      clear E37 WX_37 GX_37 H0X_37 e38
      go_simp
      refine (toPointS_any A1 n1 c1 l1 w38 (hr1.ext (Ext.trans (by repeat (first | exact Ext.refl _ | refine Ext.alloc ?_ _ | assumption | refine Ext.over ?_ _ | refine Ext.drew ?_ | refine Ext.drewN ?_ _)) E38.out)) hl1 (by omega)).mono ?_; rintro _ w39 ⟨H1X, H1Xc, rfl, o39, e39⟩
      refine ⟨_, rfl, hK _ _ e39.ex ?_⟩; clear hK K
      have NEWXH1X := hid (own_ne WX_38.out o39 (Nat.le_refl _)); have NEH1XWX := hid (own_ne' WX_38.out o39 (Nat.le_refl _))
      have NEGXH1X := hid (own_ne GX_38.out o39 (Nat.le_refl _)); have NEH1XGX := hid (own_ne' GX_38.out o39 (Nat.le_refl _))
      have NEH0XH1X := hid (own_ne H0X_38.out o39 (Nat.le_refl _)); have NEH1XH0X := hid (own_ne' H0X_38.out o39 (Nat.le_refl _))
      have BH1X := hid E38.out.size
      have E39 := hid (E38.out.trans e39)
      have WX_39 := hid (own_ext WX_38.out e39)
      have GX_39 := hid (own_ext GX_38.out e39)
      have H0X_39 := hid (own_ext H0X_38.out e39)
      have H1X_39 := hid o39
      clear E38 WX_38 GX_38 H0X_38 e39 o39
      refine wpT_step (fun w40 hw40 K hK => ?_)
      have e40 := later_ext hw40; clear hw40
      have E40 := hid (E39.out.trans e40)
      have WX_40 := hid (own_ext WX_39.out e40)
      have GX_40 := hid (own_ext GX_39.out e40)
      have H0X_40 := hid (own_ext H0X_39.out e40)
      have H1X_40 := hid (own_ext H1X_39.out e40)
      clear E39 WX_39 GX_39 H0X_39 H1X_39 e40
      go_simp
      refine (toPoint_any x2a x2b w40).mono ?_; rintro _ w41 ⟨rfl, e41⟩
      refine ⟨_, rfl, hK _ _ e41.ex ?_⟩; clear hK K
      have E41 := hid (E40.out.trans e41)
      have WX_41 := hid (own_ext WX_40.out e41)
      have GX_41 := hid (own_ext GX_40.out e41)
      have H0X_41 := hid (own_ext H0X_40.out e41)
      have H1X_41 := hid (own_ext H1X_40.out e41)
      clear E40 WX_40 GX_40 H0X_40 H1X_40 e41
      refine wpT_step (fun w42 hw42 K hK => ?_)
      have e42 := later_ext hw42; clear hw42
      have E42 := hid (E41.out.trans e42)
      have WX_42 := hid (own_ext WX_41.out e42)
      have GX_42 := hid (own_ext GX_41.out e42)
      have H0X_42 := hid (own_ext H0X_41.out e42)
      have H1X_42 := hid (own_ext H1X_41.out e42)
      clear E41 WX_41 GX_41 H0X_41 H1X_41 e42
      go_simp
      refine (iSeenOn_at H0X n0 H0Xc l0 H1X n1 H1Xc l1 x2a x2b w42 (Row.of_own H0X_42.out) hl0 (by omega) (Row.of_own H1X_42.out) hl1 (by omega)).mono ?_; rintro _ w43 ⟨HX, mh, HXc, rfl, o43, e43⟩
      refine ⟨_, rfl, hK _ _ e43.ex ?_⟩; clear hK K
      have hmh := own_len o43; obtain rfl : mg = mh := by omega
      have NEWXHX := hid (own_ne WX_42.out o43 (Nat.le_refl _)); have NEHXWX := hid (own_ne' WX_42.out o43 (Nat.le_refl _))
      have NEGXHX := hid (own_ne GX_42.out o43 (Nat.le_refl _)); have NEHXGX := hid (own_ne' GX_42.out o43 (Nat.le_refl _))
      have NEH0XHX := hid (own_ne H0X_42.out o43 (Nat.le_refl _)); have NEHXH0X := hid (own_ne' H0X_42.out o43 (Nat.le_refl _))
      have NEH1XHX := hid (own_ne H1X_42.out o43 (Nat.le_refl _)); have NEHXH1X := hid (own_ne' H1X_42.out o43 (Nat.le_refl _))
      have BHX := hid E42.out.size
      have E43 := hid (E42.out.trans e43)
      have WX_43 := hid (own_ext WX_42.out e43)
      have GX_43 := hid (own_ext GX_42.out e43)
      have H0X_43 := hid (own_ext H0X_42.out e43)
      have H1X_43 := hid (own_ext H1X_42.out e43)
      have HX_43 := hid o43
      clear E42 WX_42 GX_42 H0X_42 H1X_42 e43 o43
      refine wpT_step (fun w44 hw44 K hK => ?_)
      have e44 := later_ext hw44; clear hw44
      have E44 := hid (E43.out.trans e44)
      have WX_44 := hid (own_ext WX_43.out e44)
      have GX_44 := hid (own_ext GX_43.out e44)
      have H0X_44 := hid (own_ext H0X_43.out e44)
      have H1X_44 := hid (own_ext H1X_43.out e44)
      have HX_44 := hid (own_ext HX_43.out e44)
      clear E43 WX_43 GX_43 H0X_43 H1X_43 HX_43 e44
      go_simp; refine hK _ _ (Ext.ex (Ext.refl w44)) ?_; clear hK K
      refine wpT_nil (fun w45 hw45 => ?_)
      have e45 := later_ext hw45; clear hw45
      have E45 := hid (E44.out.trans e45)
      have WX_45 := hid (own_ext WX_44.out e45)
      have GX_45 := hid (own_ext GX_44.out e45)
      have H0X_45 := hid (own_ext H0X_44.out e45)
      have H1X_45 := hid (own_ext H1X_44.out e45)
      have HX_45 := hid (own_ext HX_44.out e45)
      clear E44 WX_44 GX_44 H0X_44 H1X_44 HX_44 e45
      clear H0X_45
      clear H1X_45
      go_wp2_with fail
      refine (eqIntS_same HX WX mg HXc WXc (seenL l0 l1 (⟨x2a, x2b⟩ : T2)) w45 (Row.of_own HX_45.out) (Row.of_own WX_45.out) hm' (by omega)).mono ?_; rintro _ w46 ⟨rfl, e46⟩
      have E46 := hid (E45.out.trans e46)
      have WX_46 := hid (own_ext WX_45.out e46)
      have GX_46 := hid (own_ext GX_45.out e46)
      have HX_46 := hid (own_ext HX_45.out e46)
      clear E45 WX_45 GX_45 HX_45 e46
      go_wp2_with fail
      refine (heldIntS_ok GX mg GXc 1 w46 (Row.of_own GX_46.out) (by omega) (by omega) (by omega)).mono ?_; rintro _ w47 ⟨rfl, e47⟩
      have E47 := hid (E46.out.trans e47)
      have WX_47 := hid (own_ext WX_46.out e47)
      have GX_47 := hid (own_ext GX_46.out e47)
      have HX_47 := hid (own_ext HX_46.out e47)
      clear E46 WX_46 GX_46 HX_46 e47
      go_wp2_with fail
      go_ret
      exact ⟨rfl, Ext.trans (by repeat (first | exact Ext.refl _ | refine Ext.alloc ?_ _ | assumption | refine Ext.over ?_ _ | refine Ext.drew ?_ | refine Ext.drewN ?_ _)) E47.out⟩
    · (unfold Gives; go_enter Try.func5, Try.ntmps5)
      go_wp2_with fail
      refine (szRoom_ok  A0 n0 c0 (1048576) _ (by omega) (by omega)).mono ?_; rintro _ w1 ⟨rfl, e1⟩
      have E1 := hid e1
      clear e1
      have hb0 : ¬ ((((1048576 : Int) - n0) : Int) < 0) := by omega
      go_wp2_with fail
      refine (szPointS_no  A1 n1 c1 (1048576 - n0) w1 (by omega) (by omega) (by omega) (by omega)).mono ?_; rintro _ w2 ⟨rfl, e2⟩
      have E2 := hid (E1.out.trans e2)
      clear E1 e2
      go_wp2_with fail
      go_ret
      exact ⟨rfl, Ext.trans (by repeat (first | exact Ext.refl _ | refine Ext.alloc ?_ _ | assumption | refine Ext.over ?_ _ | refine Ext.drew ?_ | refine Ext.drewN ?_ _)) E2.out⟩
  · (unfold Gives; go_enter Try.func5, Try.ntmps5)
    go_wp2_with fail
    refine (szRoom_no  A0 n0 c0 (1048576) _ (by omega) (by omega) (by omega) (by omega)).mono ?_; rintro _ w1 ⟨rfl, e1⟩
    have E1 := hid e1
    clear e1
    go_wp2_with fail
    go_ret
    exact ⟨rfl, Ext.trans (by repeat (first | exact Ext.refl _ | refine Ext.alloc ?_ _ | assumption | refine Ext.over ?_ _ | refine Ext.drew ?_ | refine Ext.drewN ?_ _)) E1.out⟩

end fnExactSeenOn
end Go.Proofs.Ytjjiadjnbpfpdaa
