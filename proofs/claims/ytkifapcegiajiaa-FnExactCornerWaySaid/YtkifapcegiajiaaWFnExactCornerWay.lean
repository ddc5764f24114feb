/- The walk of FnExactCornerWay: it returns true. Conditions: its arguments read as lists.  -/
import Derived.Test.YtkifapcegiajiaaCornerI
import Derived.Test.YtkifapcegiajiaaHelpR
import Derived.Test.YtkifapcegiajiaaHelpRM
import Derived.Test.YtkifapcegiajiaaHelpEq
import Derived.Test.YtkifapcegiajiaaHelpM
import Derived.Test.YtkifapcegiajiaaHer
import Derived.Test.YtkifapcegiajiaaHer4
namespace Go.Proofs.Ytkifapcegiajiaa
open Go.RowKit
set_option linter.unusedVariables false
namespace fnExactCornerWay
set_option maxHeartbeats 3200000 in
set_option maxRecDepth 100000 in
theorem walkT (w : World) (A0 : Option Addr) (n0 c0 : Nat) (l0 : List T2) (hr0 : Row w A0 (l0.flatMap T2.v)) (hl0 : l0.length = n0) (hn0 : n0 ≤ maxLen) (hok0 : ∀ x ∈ l0, x.ok) (x1a : Int) (x1b : Int) (hx1a : i64r x1a) (hx1b : i64r x1b) (x2a : Int) (x2b : Int) (hx2a : i64r x2a) (hx2b : i64r x2b) (hb : (isIn l0 ⟨x1a, x1b⟩ && isIn l0 ⟨x2a, x2b⟩) = true) : Gives Try.prog 3 #[.agg #[.slice A0 n0 c0], .agg #[.int .i64 x1a, .int .i64 x1b], .agg #[.int .i64 x2a, .int .i64 x2b]] w (.bool true) := by
  unfold maxLen at hn0
  by_cases hbig0 : (n0 : Int) ≤ 1048576
  · have hlen : (cwL l0 (⟨x1a, x1b⟩ : T2) (⟨x2a, x2b⟩ : T2)).length ≤ 8388608 := by have := cwL_len l0 (⟨x1a, x1b⟩ : T2) (⟨x2a, x2b⟩ : T2); omega
    (unfold Gives; go_enter Try.func3, Try.ntmps3)
    go_wp2_with fail
    refine (szRoom_ok  A0 n0 c0 (1048576) _ (by omega) (by omega)).mono ?_; rintro _ w1 ⟨rfl, e1⟩
    have E1 := hid e1
    clear e1
    have hb0 : ¬ ((((1048576 : Int) - n0) : Int) < 0) := by omega
    obtain ⟨xw1, hxw1⟩ := E1.out.ex; subst hxw1
    go_wp2_with fail
    refine wp_region_x [.q 0, .q 2, .q 4, .u 1, .u 3, .u 5, .u 6, .q 7, .q 8, .q 9, .q 10, .q 11] (by kernel_rfl) (by kernel_rfl) (fun w2 e2 => ?_)
    have E2 := hid (E1.out.trans e2)
    clear E1 e2
    have HZ2 := hid (Ext.refl w2)
    have px2_0_0 := old_cell (a := ⟨w.heap.size, 0, none⟩) (u := .slice A0 n0 c0) E2.out (by go_simp)
    have px2_1_0 := old_cell (a := ⟨w.heap.size + 1, 0, none⟩) (u := .int .i64 x1a) E2.out (by go_simp)
    have px2_1_1 := old_cell (a := ⟨w.heap.size + 1, 1, none⟩) (u := .int .i64 x1b) E2.out (by go_simp)
    have px2_2_0 := old_cell (a := ⟨w.heap.size + 1 + 1, 0, none⟩) (u := .int .i64 x2a) E2.out (by go_simp)
    have px2_2_1 := old_cell (a := ⟨w.heap.size + 1 + 1, 1, none⟩) (u := .int .i64 x2b) E2.out (by go_simp)
    simp only [pick, List.getElem?_cons_succ, List.getElem?_cons_zero]
    repeat (refine wpZ_q (fun K hK => ?_); go_simp; refine hK _ ?_; clear hK K)
    clear px2_0_0
    clear px2_1_0
    clear px2_1_1
    clear px2_2_0
    clear px2_2_1
    refine wpZ_u ?_; refine stepH_of (fun K hK => ?_); go_simp
    refine (toRoom_any A0 n0 c0 l0 w2 (hr0.ext (Ext.trans (by repeat (first | exact Ext.refl _ | refine Ext.alloc ?_ _ | assumption | refine Ext.over ?_ _ | refine Ext.drew ?_ | refine Ext.drewN ?_ _)) E2.out)) hl0 (by omega)).mono ?_; rintro _ w3 ⟨S0X, S0Xc, rfl, o3, e3⟩
    refine ⟨_, rfl, hK _ _ (ext_below e3 HZ2.out.size) ?_⟩; clear hK K
    have HZ3 := hid (HZ2.out.trans e3)
    have BS0X := hid E2.out.size
    have E3 := hid (E2.out.trans e3)
    have S0X_3 := hid o3
    clear E2 e3 o3
    refine wpZ_u ?_; refine stepH_of (fun K hK => ?_); go_simp
    refine (toPoint_any x1a x1b w3).mono ?_; rintro _ w4 ⟨rfl, e4⟩
    refine ⟨_, rfl, hK _ _ (ext_below e4 HZ3.out.size) ?_⟩; clear hK K
    have HZ4 := hid (HZ3.out.trans e4)
    have E4 := hid (E3.out.trans e4)
    have S0X_4 := hid (own_ext S0X_3.out e4)
    clear E3 S0X_3 e4
    refine wpZ_u ?_; refine stepH_of (fun K hK => ?_); go_simp
    refine (toPoint_any x2a x2b w4).mono ?_; rintro _ w5 ⟨rfl, e5⟩
    refine ⟨_, rfl, hK _ _ (ext_below e5 HZ4.out.size) ?_⟩; clear hK K
    have HZ5 := hid (HZ4.out.trans e5)
    have E5 := hid (E4.out.trans e5)
    have S0X_5 := hid (own_ext S0X_4.out e5)
    clear E4 S0X_4 e5
    refine wpZ_u ?_; refine stepH_of (fun K hK => ?_); go_simp
    refine (sWay_at S0X n0 S0Xc l0 x1a x1b x2a x2b w5 (Row.of_own S0X_5.out) hl0 (by omega) hb).mono ?_; rintro _ w6 ⟨WX, mw, WXc, rfl, o6, e6⟩
    refine ⟨_, rfl, hK _ _ (ext_below e6 HZ5.out.size) ?_⟩; clear hK K
    have HZ6 := hid (HZ5.out.trans e6)
    have hm := own_len o6
    have NES0XWX := hid (own_ne S0X_5.out o6 (Nat.le_refl _)); have NEWXS0X := hid (own_ne' S0X_5.out o6 (Nat.le_refl _))
    have BWX := hid E5.out.size
    have E6 := hid (E5.out.trans e6)
    have S0X_6 := hid (own_ext S0X_5.out e6)
    have WX_6 := hid o6
    clear E5 S0X_5 e6 o6
    repeat (refine wpZ_q (fun K hK => ?_); go_simp; refine hK _ ?_; clear hK K)
    refine wpZ_nil ?_
    clear S0X_6
    obtain ⟨xw6, hxw6⟩ := E6.out.ex; subst hxw6
    go_wp2_with fail
    refine (toRoom_any A0 n0 c0 l0 _ (hr0.ext (Ext.trans (by repeat (first | exact Ext.refl _ | refine Ext.alloc ?_ _ | assumption | refine Ext.over ?_ _ | refine Ext.drew ?_ | refine Ext.drewN ?_ _)) E6.out)) hl0 (by omega)).mono ?_; rintro _ w7 ⟨I0X, I0Xc, rfl, o7, e7⟩
    have NEWXI0X := hid (own_ne WX_6.out o7 (Nat.le_refl _)); have NEI0XWX := hid (own_ne' WX_6.out o7 (Nat.le_refl _))
    have BI0X := hid E6.out.size
    have E7 := hid (E6.out.trans e7)
    have WX_7 := hid (own_ext WX_6.out e7)
    have I0X_7 := hid o7
    clear E6 WX_6 e7 o7
    go_wp2_with fail
    obtain ⟨w8, hw8⟩ : ∃ w8, w8 = World.alloc w7 (.cells #[.slice I0X n0 I0Xc] 33) := ⟨_, rfl⟩
    rw [← hw8]
    have e8 : Ext w7 w8 := by rw [hw8]; repeat (first | exact Ext.refl _ | refine Ext.alloc ?_ _ | assumption | refine Ext.over ?_ _ | refine Ext.drew ?_ | refine Ext.drewN ?_ _)
    have bx0p := (show w8.cell? ⟨w7.heap.size, 0, none⟩ = some (.slice I0X n0 I0Xc) by rw [hw8]; go_simp)
    clear hw8
    have E8 := hid (E7.out.trans e8)
    have WX_8 := hid (own_ext WX_7.out e8)
    have I0X_8 := hid (own_ext I0X_7.out e8)
    clear E7 WX_7 I0X_7 e8
    obtain ⟨xw8, hxw8⟩ := E8.out.ex; subst hxw8
    go_wp2_with fail
    refine wp_region_x [.q 0, .q 1, .q 3, .u 2, .u 4, .u 5, .q 6, .q 7, .q 8, .q 9, .q 10] (by kernel_rfl) (by kernel_rfl) (fun w9 e9 => ?_)
    have E9 := hid (E8.out.trans e9)
    have WX_9 := hid (own_ext WX_8.out e9)
    have I0X_9 := hid (own_ext I0X_8.out e9)
    have bx0p_9 := old_cell e9 bx0p
    clear bx0p
    clear E8 WX_8 I0X_8 e9
    have HZ9 := hid (Ext.refl w9)
    have px9_0_0 := old_cell (a := ⟨w.heap.size, 0, none⟩) (u := .slice A0 n0 c0) E9.out (by go_simp)
    have px9_1_0 := old_cell (a := ⟨w.heap.size + 1, 0, none⟩) (u := .int .i64 x1a) E9.out (by go_simp)
    have px9_1_1 := old_cell (a := ⟨w.heap.size + 1, 1, none⟩) (u := .int .i64 x1b) E9.out (by go_simp)
    have px9_2_0 := old_cell (a := ⟨w.heap.size + 1 + 1, 0, none⟩) (u := .int .i64 x2a) E9.out (by go_simp)
    have px9_2_1 := old_cell (a := ⟨w.heap.size + 1 + 1, 1, none⟩) (u := .int .i64 x2b) E9.out (by go_simp)
    simp only [pick, List.getElem?_cons_succ, List.getElem?_cons_zero]
    repeat (refine wpZ_q (fun K hK => ?_); go_simp; refine hK _ ?_; clear hK K)
    clear px9_0_0
    clear px9_1_0
    clear px9_1_1
    clear px9_2_0
    clear px9_2_1
    refine wpZ_u ?_; refine stepH_of (fun K hK => ?_); go_simp
    refine (toPoint_any x1a x1b w9).mono ?_; rintro _ w10 ⟨rfl, e10⟩
    refine ⟨_, rfl, hK _ _ (ext_below e10 HZ9.out.size) ?_⟩; clear hK K
    have HZ10 := hid (HZ9.out.trans e10)
    have E10 := hid (E9.out.trans e10)
    have WX_10 := hid (own_ext WX_9.out e10)
    have I0X_10 := hid (own_ext I0X_9.out e10)
    have bx0p_10 := old_cell e10 bx0p_9
    clear bx0p_9
    clear E9 WX_9 I0X_9 e10
    refine wpZ_u ?_; refine stepH_of (fun K hK => ?_); go_simp
    refine (toPoint_any x2a x2b w10).mono ?_; rintro _ w11 ⟨rfl, e11⟩
    refine ⟨_, rfl, hK _ _ (ext_below e11 HZ10.out.size) ?_⟩; clear hK K
    have HZ11 := hid (HZ10.out.trans e11)
    have E11 := hid (E10.out.trans e11)
    have WX_11 := hid (own_ext WX_10.out e11)
    have I0X_11 := hid (own_ext I0X_10.out e11)
    have bx0p_11 := old_cell e11 bx0p_10
    clear bx0p_10
    clear E10 WX_10 I0X_10 e11
    refine wpZ_u ?_; refine stepH_of (fun K hK => ?_); go_simp
    refine (iWay_at I0X n0 I0Xc l0 x1a x1b x2a x2b w11 (Row.of_own I0X_11.out) hl0 (by omega) hb).mono ?_; rintro _ w12 ⟨GX, mg, GXc, rfl, o12, e12⟩
    refine ⟨_, rfl, hK _ _ (ext_below e12 HZ11.out.size) ?_⟩; clear hK K
    have HZ12 := hid (HZ11.out.trans e12)
    have hm' := own_len o12; obtain rfl : mg = mw := by omega
    have NEWXGX := hid (own_ne WX_11.out o12 (Nat.le_refl _)); have NEGXWX := hid (own_ne' WX_11.out o12 (Nat.le_refl _))
    have NEI0XGX := hid (own_ne I0X_11.out o12 (Nat.le_refl _)); have NEGXI0X := hid (own_ne' I0X_11.out o12 (Nat.le_refl _))
    have BGX := hid E11.out.size
    have E12 := hid (E11.out.trans e12)
    have WX_12 := hid (own_ext WX_11.out e12)
    have I0X_12 := hid (own_ext I0X_11.out e12)
    have GX_12 := hid o12
    have bx0p_12 := old_cell e12 bx0p_11
    clear bx0p_11
    clear E11 WX_11 I0X_11 e12 o12
    repeat (refine wpZ_q (fun K hK => ?_); go_simp; refine hK _ ?_; clear hK K)
    refine wpZ_nil ?_
    go_wp2_with fail
    refine (eqIntS_same GX WX mg GXc WXc (cwL l0 (⟨x1a, x1b⟩ : T2) (⟨x2a, x2b⟩ : T2)) w12 (Row.of_own GX_12.out) (Row.of_own WX_12.out) hm' (by omega)).mono ?_; rintro _ w13 ⟨rfl, e13⟩
    have E13 := hid (E12.out.trans e13)
    have WX_13 := hid (own_ext WX_12.out e13)
    have I0X_13 := hid (own_ext I0X_12.out e13)
    have GX_13 := hid (own_ext GX_12.out e13)
    have bx0p_13 := old_cell e13 bx0p_12
    clear bx0p_12
    clear E12 WX_12 I0X_12 GX_12 e13
    obtain ⟨xw13, hxw13⟩ := E13.out.ex; subst hxw13
    go_wp2_with fail
    refine wp_region_her [true, true, false, false, false] (by kernel_rfl) (by kernel_rfl) ?_
    simp only [selB, notB, List.map_cons, List.map_nil, Bool.not_true, Bool.not_false]
    repeat (refine wpH_step (fun K hK => ?_); go_simp; refine hK _ ?_; clear hK K)
    refine wpH_nil ?_
    refine wpT_step (fun w14 hw14 K hK => ?_)
    have e14 := later_ext hw14; clear hw14
    have E14 := hid (E13.out.trans e14)
    have WX_14 := hid (own_ext WX_13.out e14)
    have I0X_14 := hid (own_ext I0X_13.out e14)
    have GX_14 := hid (own_ext GX_13.out e14)
    have bx0p_14 := old_cell e14 bx0p_13
    clear bx0p_13
    clear E13 WX_13 I0X_13 GX_13 e14
    go_simp
    refine (toRoom_any A0 n0 c0 l0 w14 (hr0.ext (Ext.trans (by repeat (first | exact Ext.refl _ | refine Ext.alloc ?_ _ | assumption | refine Ext.over ?_ _ | refine Ext.drew ?_ | refine Ext.drewN ?_ _)) E14.out)) hl0 (by omega)).mono ?_; rintro _ w15 ⟨Q0X, Q0Xc, rfl, o15, e15⟩
    refine ⟨_, rfl, hK _ _ e15.ex ?_⟩; clear hK K
    have NEWXQ0X := hid (own_ne WX_14.out o15 (Nat.le_refl _)); have NEQ0XWX := hid (own_ne' WX_14.out o15 (Nat.le_refl _))
    have NEI0XQ0X := hid (own_ne I0X_14.out o15 (Nat.le_refl _)); have NEQ0XI0X := hid (own_ne' I0X_14.out o15 (Nat.le_refl _))
    have NEGXQ0X := hid (own_ne GX_14.out o15 (Nat.le_refl _)); have NEQ0XGX := hid (own_ne' GX_14.out o15 (Nat.le_refl _))
    have BQ0X := hid E14.out.size
    have E15 := hid (E14.out.trans e15)
    have WX_15 := hid (own_ext WX_14.out e15)
    have I0X_15 := hid (own_ext I0X_14.out e15)
    have GX_15 := hid (own_ext GX_14.out e15)
    have Q0X_15 := hid o15
    have bx0p_15 := old_cell e15 bx0p_14
    clear bx0p_14
    clear E14 WX_14 I0X_14 GX_14 e15 o15
    refine wpT_step (fun w16 hw16 K hK => ?_)
    have e16 := later_ext hw16; clear hw16
    have E16 := hid (E15.out.trans e16)
    have WX_16 := hid (own_ext WX_15.out e16)
    have I0X_16 := hid (own_ext I0X_15.out e16)
    have GX_16 := hid (own_ext GX_15.out e16)
    have Q0X_16 := hid (own_ext Q0X_15.out e16)
    have bx0p_16 := old_cell e16 bx0p_15
    clear bx0p_15
    clear E15 WX_15 I0X_15 GX_15 Q0X_15 e16
    go_simp
    refine (eqRoom_same  I0X Q0X n0 I0Xc Q0Xc l0 w16 (Row.of_own I0X_16.out) (Row.of_own Q0X_16.out) hl0 (by omega)).mono ?_; rintro _ w17 ⟨rfl, e17⟩
    refine ⟨_, rfl, hK _ _ e17.ex ?_⟩; clear hK K
    have E17 := hid (E16.out.trans e17)
    have WX_17 := hid (own_ext WX_16.out e17)
    have I0X_17 := hid (own_ext I0X_16.out e17)
    have GX_17 := hid (own_ext GX_16.out e17)
    have Q0X_17 := hid (own_ext Q0X_16.out e17)
    have bx0p_17 := old_cell e17 bx0p_16
    clear bx0p_16
    clear E16 WX_16 I0X_16 GX_16 Q0X_16 e17
    refine wpT_step (fun w18 hw18 K hK => ?_)
    have e18 := later_ext hw18; clear hw18
    have E18 := hid (E17.out.trans e18)
    have WX_18 := hid (own_ext WX_17.out e18)
    have I0X_18 := hid (own_ext I0X_17.out e18)
    have GX_18 := hid (own_ext GX_17.out e18)
    have Q0X_18 := hid (own_ext Q0X_17.out e18)
    have bx0p_18 := old_cell e18 bx0p_17
    clear bx0p_17
    clear E17 WX_17 I0X_17 GX_17 Q0X_17 e18
    go_simp; refine hK _ _ (Ext.ex (Ext.refl w18)) ?_; clear hK K
    refine wpT_nil (fun w19 hw19 => ?_)
    have e19 := later_ext hw19; clear hw19
    have E19 := hid (E18.out.trans e19)
    have WX_19 := hid (own_ext WX_18.out e19)
    have I0X_19 := hid (own_ext I0X_18.out e19)
    have GX_19 := hid (own_ext GX_18.out e19)
    have Q0X_19 := hid (own_ext Q0X_18.out e19)
    have bx0p_19 := old_cell e19 bx0p_18
    clear bx0p_18
    clear E18 WX_18 I0X_18 GX_18 Q0X_18 e19
    clear Q0X_19
    go_wp2_with fail
    try clear bx0p_19
    refine (markRoom_any  I0X n0 I0Xc _ _ (1) w19 I0X_19.out (by omega) (by omega) (by omega)).mono ?_; rintro _ w20 ⟨rfl, g20, s20, o20⟩
    have E20 := hid (grown_ext E19.out I0X_19.out BI0X.out g20)
    have WX_20 := hid (WX_19.out.kept g20 NEWXI0X.out)
    have I0X_20 := hid o20
    have GX_20 := hid (GX_19.out.kept g20 NEGXI0X.out)
    clear E19 WX_19 I0X_19 GX_19 g20 s20 o20
    clear I0X_20
    have hk : ¬ ((((1 : Int) + 2 * n0) : Int) < 0) := by omega
    go_wp2_with fail
    refine (eqIntS_same GX WX mg GXc WXc (cwL l0 (⟨x1a, x1b⟩ : T2) (⟨x2a, x2b⟩ : T2)) w20 (Row.of_own GX_20.out) (Row.of_own WX_20.out) hm' (by omega)).mono ?_; rintro _ w21 ⟨rfl, e21⟩
    have E21 := hid (E20.out.trans e21)
    have WX_21 := hid (own_ext WX_20.out e21)
    have GX_21 := hid (own_ext GX_20.out e21)
    clear E20 WX_20 GX_20 e21
    go_wp2_with fail
    refine (markIntS_any GX mg GXc _ _ 1 w21 GX_21.out (by omega) (by omega) (by omega)).mono ?_; rintro _ w22 ⟨rfl, g22, s22, o22⟩
    have E22 := hid (grown_ext E21.out GX_21.out BGX.out g22)
    have WX_22 := hid (WX_21.out.kept g22 NEWXGX.out)
    have GX_22 := hid o22
    clear E21 WX_21 GX_21 g22 s22 o22
    go_wp2_with fail
    refine (heldIntS_ok GX mg GXc 1 w22 (Row.of_own GX_22.out) (by omega) (by omega) (by omega)).mono ?_; rintro _ w23 ⟨rfl, e23⟩
    have E23 := hid (E22.out.trans e23)
    have WX_23 := hid (own_ext WX_22.out e23)
    have GX_23 := hid (own_ext GX_22.out e23)
    clear E22 WX_22 GX_22 e23
    have hq : ¬ ((1 : Int) + mg < 0) := by omega
    obtain ⟨xw23, hxw23⟩ := E23.out.ex; subst hxw23
    go_wp2_with fail
    refine wp_region_x [.q 0, .q 2, .q 4, .u 1, .u 3, .u 5, .u 6, .q 7, .q 8, .q 9, .q 10, .q 11] (by kernel_rfl) (by kernel_rfl) (fun w24 e24 => ?_)
    have E24 := hid (E23.out.trans e24)
    have WX_24 := hid (own_ext WX_23.out e24)
    have GX_24 := hid (own_ext GX_23.out e24)
    clear E23 WX_23 GX_23 e24
    have HZ24 := hid (Ext.refl w24)
    have px24_0_0 := old_cell (a := ⟨w.heap.size, 0, none⟩) (u := .slice A0 n0 c0) E24.out (by go_simp)
    have px24_1_0 := old_cell (a := ⟨w.heap.size + 1, 0, none⟩) (u := .int .i64 x1a) E24.out (by go_simp)
    have px24_1_1 := old_cell (a := ⟨w.heap.size + 1, 1, none⟩) (u := .int .i64 x1b) E24.out (by go_simp)
    have px24_2_0 := old_cell (a := ⟨w.heap.size + 1 + 1, 0, none⟩) (u := .int .i64 x2a) E24.out (by go_simp)
    have px24_2_1 := old_cell (a := ⟨w.heap.size + 1 + 1, 1, none⟩) (u := .int .i64 x2b) E24.out (by go_simp)
    simp only [pick, List.getElem?_cons_succ, List.getElem?_cons_zero]
    repeat (refine wpZ_q (fun K hK => ?_); go_simp; refine hK _ ?_; clear hK K)
    clear px24_0_0
    clear px24_1_0
    clear px24_1_1
    clear px24_2_0
    clear px24_2_1
    refine wpZ_u ?_; refine stepH_of (fun K hK => ?_); go_simp
    refine (toRoom_any A0 n0 c0 l0 w24 (hr0.ext (Ext.trans (by repeat (first | exact Ext.refl _ | refine Ext.alloc ?_ _ | assumption | refine Ext.over ?_ _ | refine Ext.drew ?_ | refine Ext.drewN ?_ _)) E24.out)) hl0 (by omega)).mono ?_; rintro _ w25 ⟨H0X, H0Xc, rfl, o25, e25⟩
    refine ⟨_, rfl, hK _ _ (ext_below e25 HZ24.out.size) ?_⟩; clear hK K
    have HZ25 := hid (HZ24.out.trans e25)
    have NEWXH0X := hid (own_ne WX_24.out o25 (Nat.le_refl _)); have NEH0XWX := hid (own_ne' WX_24.out o25 (Nat.le_refl _))
    have NEGXH0X := hid (own_ne GX_24.out o25 (Nat.le_refl _)); have NEH0XGX := hid (own_ne' GX_24.out o25 (Nat.le_refl _))
    have BH0X := hid E24.out.size
    have E25 := hid (E24.out.trans e25)
    have WX_25 := hid (own_ext WX_24.out e25)
    have GX_25 := hid (own_ext GX_24.out e25)
    have H0X_25 := hid o25
    clear E24 WX_24 GX_24 e25 o25
    refine wpZ_u ?_; refine stepH_of (fun K hK => ?_); go_simp
    refine (toPoint_any x1a x1b w25).mono ?_; rintro _ w26 ⟨rfl, e26⟩
    refine ⟨_, rfl, hK _ _ (ext_below e26 HZ25.out.size) ?_⟩; clear hK K
    have HZ26 := hid (HZ25.out.trans e26)
    have E26 := hid (E25.out.trans e26)
    have WX_26 := hid (own_ext WX_25.out e26)
    have GX_26 := hid (own_ext GX_25.out e26)
    have H0X_26 := hid (own_ext H0X_25.out e26)
    clear E25 WX_25 GX_25 H0X_25 e26
    refine wpZ_u ?_; refine stepH_of (fun K hK => ?_); go_simp
    refine (toPoint_any x2a x2b w26).mono ?_; rintro _ w27 ⟨rfl, e27⟩
    refine ⟨_, rfl, hK _ _ (ext_below e27 HZ26.out.size) ?_⟩; clear hK K
    have HZ27 := hid (HZ26.out.trans e27)
    have E27 := hid (E26.out.trans e27)
    have WX_27 := hid (own_ext WX_26.out e27)
    have GX_27 := hid (own_ext GX_26.out e27)
    have H0X_27 := hid (own_ext H0X_26.out e27)
    clear E26 WX_26 GX_26 H0X_26 e27
    refine wpZ_u ?_; refine stepH_of (fun K hK => ?_); go_simp
    refine (iWay_at H0X n0 H0Xc l0 x1a x1b x2a x2b w27 (Row.of_own H0X_27.out) hl0 (by omega) hb).mono ?_; rintro _ w28 ⟨HX, mh, HXc, rfl, o28, e28⟩
    refine ⟨_, rfl, hK _ _ (ext_below e28 HZ27.out.size) ?_⟩; clear hK K
    have HZ28 := hid (HZ27.out.trans e28)
    have hmh := own_len o28; obtain rfl : mg = mh := by omega
    have NEWXHX := hid (own_ne WX_27.out o28 (Nat.le_refl _)); have NEHXWX := hid (own_ne' WX_27.out o28 (Nat.le_refl _))
    have NEGXHX := hid (own_ne GX_27.out o28 (Nat.le_refl _)); have NEHXGX := hid (own_ne' GX_27.out o28 (Nat.le_refl _))
    have NEH0XHX := hid (own_ne H0X_27.out o28 (Nat.le_refl _)); have NEHXH0X := hid (own_ne' H0X_27.out o28 (Nat.le_refl _))
    have BHX := hid E27.out.size
    have E28 := hid (E27.out.trans e28)
    have WX_28 := hid (own_ext WX_27.out e28)
    have GX_28 := hid (own_ext GX_27.out e28)
    have H0X_28 := hid (own_ext H0X_27.out e28)
    have HX_28 := hid o28
    clear E27 WX_27 GX_27 H0X_27 e28 o28
    repeat (refine wpZ_q (fun K hK => ?_); go_simp; refine hK _ ?_; clear hK K)
    refine wpZ_nil ?_
    clear H0X_28
    go_wp2_with fail
    refine (eqIntS_same HX WX mg HXc WXc (cwL l0 (⟨x1a, x1b⟩ : T2) (⟨x2a, x2b⟩ : T2)) w28 (Row.of_own HX_28.out) (Row.of_own WX_28.out) hm' (by omega)).mono ?_; rintro _ w29 ⟨rfl, e29⟩
    have E29 := hid (E28.out.trans e29)
    have WX_29 := hid (own_ext WX_28.out e29)
    have GX_29 := hid (own_ext GX_28.out e29)
    have HX_29 := hid (own_ext HX_28.out e29)
    clear E28 WX_28 GX_28 HX_28 e29
    go_wp2_with fail
    refine (heldIntS_ok GX mg GXc 1 w29 (Row.of_own GX_29.out) (by omega) (by omega) (by omega)).mono ?_; rintro _ w30 ⟨rfl, e30⟩
    have E30 := hid (E29.out.trans e30)
    have WX_30 := hid (own_ext WX_29.out e30)
    have GX_30 := hid (own_ext GX_29.out e30)
    have HX_30 := hid (own_ext HX_29.out e30)
    clear E29 WX_29 GX_29 HX_29 e30
    go_wp2_with fail
    go_ret
    exact ⟨rfl, Ext.trans (by repeat (first | exact Ext.refl _ | refine Ext.alloc ?_ _ | assumption | refine Ext.over ?_ _ | refine Ext.drew ?_ | refine Ext.drewN ?_ _)) E30.out⟩
  · (unfold Gives; go_enter Try.func3, Try.ntmps3)
    go_wp2_with fail
    refine (szRoom_no  A0 n0 c0 (1048576) _ (by omega) (by omega) (by omega) (by omega)).mono ?_; rintro _ w1 ⟨rfl, e1⟩
    have E1 := hid e1
    clear e1
    go_wp2_with fail
    go_ret
    exact ⟨rfl, Ext.trans (by repeat (first | exact Ext.refl _ | refine Ext.alloc ?_ _ | assumption | refine Ext.over ?_ _ | refine Ext.drew ?_ | refine Ext.drewN ?_ _)) E1.out⟩
set_option maxHeartbeats 3200000 in
set_option maxRecDepth 100000 in
theorem walkF (w : World) (A0 : Option Addr) (n0 c0 : Nat) (l0 : List T2) (hr0 : Row w A0 (l0.flatMap T2.v)) (hl0 : l0.length = n0) (hn0 : n0 ≤ maxLen) (hok0 : ∀ x ∈ l0, x.ok) (x1a : Int) (x1b : Int) (hx1a : i64r x1a) (hx1b : i64r x1b) (x2a : Int) (x2b : Int) (hx2a : i64r x2a) (hx2b : i64r x2b) (hb : (isIn l0 ⟨x1a, x1b⟩ && isIn l0 ⟨x2a, x2b⟩) = false) : Gives Try.prog 3 #[.agg #[.slice A0 n0 c0], .agg #[.int .i64 x1a, .int .i64 x1b], .agg #[.int .i64 x2a, .int .i64 x2b]] w (.bool true) := by
  unfold maxLen at hn0
  by_cases hbig0 : (n0 : Int) ≤ 1048576
  · have hlen : (cwL l0 (⟨x1a, x1b⟩ : T2) (⟨x2a, x2b⟩ : T2)).length ≤ 8388608 := by have := cwL_len l0 (⟨x1a, x1b⟩ : T2) (⟨x2a, x2b⟩ : T2); omega
    (unfold Gives; go_enter Try.func3, Try.ntmps3)
    go_wp2_with fail
    refine (szRoom_ok  A0 n0 c0 (1048576) _ (by omega) (by omega)).mono ?_; rintro _ w1 ⟨rfl, e1⟩
    have E1 := hid e1
    clear e1
    have hb0 : ¬ ((((1048576 : Int) - n0) : Int) < 0) := by omega
    obtain ⟨xw1, hxw1⟩ := E1.out.ex; subst hxw1
    go_wp2_with fail
    refine wp_region_x [.q 0, .q 2, .q 4, .u 1, .u 3, .u 5, .u 6, .q 7, .q 8, .q 9, .q 10, .q 11] (by kernel_rfl) (by kernel_rfl) (fun w2 e2 => ?_)
    have E2 := hid (E1.out.trans e2)
    clear E1 e2
    have HZ2 := hid (Ext.refl w2)
    have px2_0_0 := old_cell (a := ⟨w.heap.size, 0, none⟩) (u := .slice A0 n0 c0) E2.out (by go_simp)
    have px2_1_0 := old_cell (a := ⟨w.heap.size + 1, 0, none⟩) (u := .int .i64 x1a) E2.out (by go_simp)
    have px2_1_1 := old_cell (a := ⟨w.heap.size + 1, 1, none⟩) (u := .int .i64 x1b) E2.out (by go_simp)
    have px2_2_0 := old_cell (a := ⟨w.heap.size + 1 + 1, 0, none⟩) (u := .int .i64 x2a) E2.out (by go_simp)
    have px2_2_1 := old_cell (a := ⟨w.heap.size + 1 + 1, 1, none⟩) (u := .int .i64 x2b) E2.out (by go_simp)
    simp only [pick, List.getElem?_cons_succ, List.getElem?_cons_zero]
    repeat (refine wpZ_q (fun K hK => ?_); go_simp; refine hK _ ?_; clear hK K)
    clear px2_0_0
    clear px2_1_0
    clear px2_1_1
    clear px2_2_0
    clear px2_2_1
    refine wpZ_u ?_; refine stepH_of (fun K hK => ?_); go_simp
    refine (toRoom_any A0 n0 c0 l0 w2 (hr0.ext (Ext.trans (by repeat (first | exact Ext.refl _ | refine Ext.alloc ?_ _ | assumption | refine Ext.over ?_ _ | refine Ext.drew ?_ | refine Ext.drewN ?_ _)) E2.out)) hl0 (by omega)).mono ?_; rintro _ w3 ⟨S0X, S0Xc, rfl, o3, e3⟩
    refine ⟨_, rfl, hK _ _ (ext_below e3 HZ2.out.size) ?_⟩; clear hK K
    have HZ3 := hid (HZ2.out.trans e3)
    have BS0X := hid E2.out.size
    have E3 := hid (E2.out.trans e3)
    have S0X_3 := hid o3
    clear E2 e3 o3
    refine wpZ_u ?_; refine stepH_of (fun K hK => ?_); go_simp
    refine (toPoint_any x1a x1b w3).mono ?_; rintro _ w4 ⟨rfl, e4⟩
    refine ⟨_, rfl, hK _ _ (ext_below e4 HZ3.out.size) ?_⟩; clear hK K
    have HZ4 := hid (HZ3.out.trans e4)
    have E4 := hid (E3.out.trans e4)
    have S0X_4 := hid (own_ext S0X_3.out e4)
    clear E3 S0X_3 e4
    refine wpZ_u ?_; refine stepH_of (fun K hK => ?_); go_simp
    refine (toPoint_any x2a x2b w4).mono ?_; rintro _ w5 ⟨rfl, e5⟩
    refine ⟨_, rfl, hK _ _ (ext_below e5 HZ4.out.size) ?_⟩; clear hK K
    have HZ5 := hid (HZ4.out.trans e5)
    have E5 := hid (E4.out.trans e5)
    have S0X_5 := hid (own_ext S0X_4.out e5)
    clear E4 S0X_4 e5
    refine wpZ_u ?_; refine stepH_of (fun K hK => ?_); go_simp
    refine (sWay_at S0X n0 S0Xc l0 x1a x1b x2a x2b w5 (Row.of_own S0X_5.out) hl0 (by omega) hb).mono ?_; rintro _ w6 ⟨WX, mw, WXc, rfl, o6, e6⟩
    refine ⟨_, rfl, hK _ _ (ext_below e6 HZ5.out.size) ?_⟩; clear hK K
    have HZ6 := hid (HZ5.out.trans e6)
    have hm := own_len o6
    have NES0XWX := hid (own_ne S0X_5.out o6 (Nat.le_refl _)); have NEWXS0X := hid (own_ne' S0X_5.out o6 (Nat.le_refl _))
    have BWX := hid E5.out.size
    have E6 := hid (E5.out.trans e6)
    have S0X_6 := hid (own_ext S0X_5.out e6)
    have WX_6 := hid o6
    clear E5 S0X_5 e6 o6
    repeat (refine wpZ_q (fun K hK => ?_); go_simp; refine hK _ ?_; clear hK K)
    refine wpZ_nil ?_
    clear S0X_6
    obtain ⟨xw6, hxw6⟩ := E6.out.ex; subst hxw6
    go_wp2_with fail
    refine (toRoom_any A0 n0 c0 l0 _ (hr0.ext (Ext.trans (by repeat (first | exact Ext.refl _ | refine Ext.alloc ?_ _ | assumption | refine Ext.over ?_ _ | refine Ext.drew ?_ | refine Ext.drewN ?_ _)) E6.out)) hl0 (by omega)).mono ?_; rintro _ w7 ⟨I0X, I0Xc, rfl, o7, e7⟩
    have NEWXI0X := hid (own_ne WX_6.out o7 (Nat.le_refl _)); have NEI0XWX := hid (own_ne' WX_6.out o7 (Nat.le_refl _))
    have BI0X := hid E6.out.size
    have E7 := hid (E6.out.trans e7)
    have WX_7 := hid (own_ext WX_6.out e7)
    have I0X_7 := hid o7
    clear E6 WX_6 e7 o7
    go_wp2_with fail
    obtain ⟨w8, hw8⟩ : ∃ w8, w8 = World.alloc w7 (.cells #[.slice I0X n0 I0Xc] 33) := ⟨_, rfl⟩
    rw [← hw8]
    have e8 : Ext w7 w8 := by rw [hw8]; repeat (first | exact Ext.refl _ | refine Ext.alloc ?_ _ | assumption | refine Ext.over ?_ _ | refine Ext.drew ?_ | refine Ext.drewN ?_ _)
    have bx0p := (show w8.cell? ⟨w7.heap.size, 0, none⟩ = some (.slice I0X n0 I0Xc) by rw [hw8]; go_simp)
    clear hw8
    have E8 := hid (E7.out.trans e8)
    have WX_8 := hid (own_ext WX_7.out e8)
    have I0X_8 := hid (own_ext I0X_7.out e8)
    clear E7 WX_7 I0X_7 e8
    obtain ⟨xw8, hxw8⟩ := E8.out.ex; subst hxw8
    go_wp2_with fail
    refine wp_region_x [.q 0, .q 1, .q 3, .u 2, .u 4, .u 5, .q 6, .q 7, .q 8, .q 9, .q 10] (by kernel_rfl) (by kernel_rfl) (fun w9 e9 => ?_)
    have E9 := hid (E8.out.trans e9)
    have WX_9 := hid (own_ext WX_8.out e9)
    have I0X_9 := hid (own_ext I0X_8.out e9)
    have bx0p_9 := old_cell e9 bx0p
    clear bx0p
    clear E8 WX_8 I0X_8 e9
    have HZ9 := hid (Ext.refl w9)
    have px9_0_0 := old_cell (a := ⟨w.heap.size, 0, none⟩) (u := .slice A0 n0 c0) E9.out (by go_simp)
    have px9_1_0 := old_cell (a := ⟨w.heap.size + 1, 0, none⟩) (u := .int .i64 x1a) E9.out (by go_simp)
    have px9_1_1 := old_cell (a := ⟨w.heap.size + 1, 1, none⟩) (u := .int .i64 x1b) E9.out (by go_simp)
    have px9_2_0 := old_cell (a := ⟨w.heap.size + 1 + 1, 0, none⟩) (u := .int .i64 x2a) E9.out (by go_simp)
    have px9_2_1 := old_cell (a := ⟨w.heap.size + 1 + 1, 1, none⟩) (u := .int .i64 x2b) E9.out (by go_simp)
    simp only [pick, List.getElem?_cons_succ, List.getElem?_cons_zero]
    repeat (refine wpZ_q (fun K hK => ?_); go_simp; refine hK _ ?_; clear hK K)
    clear px9_0_0
    clear px9_1_0
    clear px9_1_1
    clear px9_2_0
    clear px9_2_1
    refine wpZ_u ?_; refine stepH_of (fun K hK => ?_); go_simp
    refine (toPoint_any x1a x1b w9).mono ?_; rintro _ w10 ⟨rfl, e10⟩
    refine ⟨_, rfl, hK _ _ (ext_below e10 HZ9.out.size) ?_⟩; clear hK K
    have HZ10 := hid (HZ9.out.trans e10)
    have E10 := hid (E9.out.trans e10)
    have WX_10 := hid (own_ext WX_9.out e10)
    have I0X_10 := hid (own_ext I0X_9.out e10)
    have bx0p_10 := old_cell e10 bx0p_9
    clear bx0p_9
    clear E9 WX_9 I0X_9 e10
    refine wpZ_u ?_; refine stepH_of (fun K hK => ?_); go_simp
    refine (toPoint_any x2a x2b w10).mono ?_; rintro _ w11 ⟨rfl, e11⟩
    refine ⟨_, rfl, hK _ _ (ext_below e11 HZ10.out.size) ?_⟩; clear hK K
    have HZ11 := hid (HZ10.out.trans e11)
    have E11 := hid (E10.out.trans e11)
    have WX_11 := hid (own_ext WX_10.out e11)
    have I0X_11 := hid (own_ext I0X_10.out e11)
    have bx0p_11 := old_cell e11 bx0p_10
    clear bx0p_10
    clear E10 WX_10 I0X_10 e11
    refine wpZ_u ?_; refine stepH_of (fun K hK => ?_); go_simp
    refine (iWay_at I0X n0 I0Xc l0 x1a x1b x2a x2b w11 (Row.of_own I0X_11.out) hl0 (by omega) hb).mono ?_; rintro _ w12 ⟨GX, mg, GXc, rfl, o12, e12⟩
    refine ⟨_, rfl, hK _ _ (ext_below e12 HZ11.out.size) ?_⟩; clear hK K
    have HZ12 := hid (HZ11.out.trans e12)
    have hm' := own_len o12; obtain rfl : mg = mw := by omega
    have NEWXGX := hid (own_ne WX_11.out o12 (Nat.le_refl _)); have NEGXWX := hid (own_ne' WX_11.out o12 (Nat.le_refl _))
    have NEI0XGX := hid (own_ne I0X_11.out o12 (Nat.le_refl _)); have NEGXI0X := hid (own_ne' I0X_11.out o12 (Nat.le_refl _))
    have BGX := hid E11.out.size
    have E12 := hid (E11.out.trans e12)
    have WX_12 := hid (own_ext WX_11.out e12)
    have I0X_12 := hid (own_ext I0X_11.out e12)
    have GX_12 := hid o12
    have bx0p_12 := old_cell e12 bx0p_11
    clear bx0p_11
    clear E11 WX_11 I0X_11 e12 o12
    repeat (refine wpZ_q (fun K hK => ?_); go_simp; refine hK _ ?_; clear hK K)
    refine wpZ_nil ?_
    go_wp2_with fail
    refine (eqIntS_same GX WX mg GXc WXc (cwL l0 (⟨x1a, x1b⟩ : T2) (⟨x2a, x2b⟩ : T2)) w12 (Row.of_own GX_12.out) (Row.of_own WX_12.out) hm' (by omega)).mono ?_; rintro _ w13 ⟨rfl, e13⟩
    have E13 := hid (E12.out.trans e13)
    have WX_13 := hid (own_ext WX_12.out e13)
    have I0X_13 := hid (own_ext I0X_12.out e13)
    have GX_13 := hid (own_ext GX_12.out e13)
    have bx0p_13 := old_cell e13 bx0p_12
    clear bx0p_12
    clear E12 WX_12 I0X_12 GX_12 e13
    obtain ⟨xw13, hxw13⟩ := E13.out.ex; subst hxw13
    go_wp2_with fail
    refine wp_region_her [true, true, false, false, false] (by kernel_rfl) (by kernel_rfl) ?_
    simp only [selB, notB, List.map_cons, List.map_nil, Bool.not_true, Bool.not_false]
    repeat (refine wpH_step (fun K hK => ?_); go_simp; refine hK _ ?_; clear hK K)
    refine wpH_nil ?_
    refine wpT_step (fun w14 hw14 K hK => ?_)
    have e14 := later_ext hw14; clear hw14
    have E14 := hid (E13.out.trans e14)
    have WX_14 := hid (own_ext WX_13.out e14)
    have I0X_14 := hid (own_ext I0X_13.out e14)
    have GX_14 := hid (own_ext GX_13.out e14)
    have bx0p_14 := old_cell e14 bx0p_13
    clear bx0p_13
    clear E13 WX_13 I0X_13 GX_13 e14
    go_simp
    refine (toRoom_any A0 n0 c0 l0 w14 (hr0.ext (Ext.trans (by repeat (first | exact Ext.refl _ | refine Ext.alloc ?_ _ | assumption | refine Ext.over ?_ _ | refine Ext.drew ?_ | refine Ext.drewN ?_ _)) E14.out)) hl0 (by omega)).mono ?_; rintro _ w15 ⟨Q0X, Q0Xc, rfl, o15, e15⟩
    refine ⟨_, rfl, hK _ _ e15.ex ?_⟩; clear hK K
    have NEWXQ0X := hid (own_ne WX_14.out o15 (Nat.le_refl _)); have NEQ0XWX := hid (own_ne' WX_14.out o15 (Nat.le_refl _))
    have NEI0XQ0X := hid (own_ne I0X_14.out o15 (Nat.le_refl _)); have NEQ0XI0X := hid (own_ne' I0X_14.out o15 (Nat.le_refl _))
    have NEGXQ0X := hid (own_ne GX_14.out o15 (Nat.le_refl _)); have NEQ0XGX := hid (own_ne' GX_14.out o15 (Nat.le_refl _))
    have BQ0X := hid E14.out.size
    have E15 := hid (E14.out.trans e15)
    have WX_15 := hid (own_ext WX_14.out e15)
    have I0X_15 := hid (own_ext I0X_14.out e15)
    have GX_15 := hid (own_ext GX_14.out e15)
    have Q0X_15 := hid o15
    have bx0p_15 := old_cell e15 bx0p_14
    clear bx0p_14
    clear E14 WX_14 I0X_14 GX_14 e15 o15
    refine wpT_step (fun w16 hw16 K hK => ?_)
    have e16 := later_ext hw16; clear hw16
    have E16 := hid (E15.out.trans e16)
    have WX_16 := hid (own_ext WX_15.out e16)
    have I0X_16 := hid (own_ext I0X_15.out e16)
    have GX_16 := hid (own_ext GX_15.out e16)
    have Q0X_16 := hid (own_ext Q0X_15.out e16)
    have bx0p_16 := old_cell e16 bx0p_15
    clear bx0p_15
    clear E15 WX_15 I0X_15 GX_15 Q0X_15 e16
    go_simp
    refine (eqRoom_same  I0X Q0X n0 I0Xc Q0Xc l0 w16 (Row.of_own I0X_16.out) (Row.of_own Q0X_16.out) hl0 (by omega)).mono ?_; rintro _ w17 ⟨rfl, e17⟩
    refine ⟨_, rfl, hK _ _ e17.ex ?_⟩; clear hK K
    have E17 := hid (E16.out.trans e17)
    have WX_17 := hid (own_ext WX_16.out e17)
    have I0X_17 := hid (own_ext I0X_16.out e17)
    have GX_17 := hid (own_ext GX_16.out e17)
    have Q0X_17 := hid (own_ext Q0X_16.out e17)
    have bx0p_17 := old_cell e17 bx0p_16
    clear bx0p_16
    clear E16 WX_16 I0X_16 GX_16 Q0X_16 e17
    refine wpT_step (fun w18 hw18 K hK => ?_)
    have e18 := later_ext hw18; clear hw18
    have E18 := hid (E17.out.trans e18)
    have WX_18 := hid (own_ext WX_17.out e18)
    have I0X_18 := hid (own_ext I0X_17.out e18)
    have GX_18 := hid (own_ext GX_17.out e18)
    have Q0X_18 := hid (own_ext Q0X_17.out e18)
    have bx0p_18 := old_cell e18 bx0p_17
    clear bx0p_17
    clear E17 WX_17 I0X_17 GX_17 Q0X_17 e18
    go_simp; refine hK _ _ (Ext.ex (Ext.refl w18)) ?_; clear hK K
    refine wpT_nil (fun w19 hw19 => ?_)
    have e19 := later_ext hw19; clear hw19
    have E19 := hid (E18.out.trans e19)
    have WX_19 := hid (own_ext WX_18.out e19)
    have I0X_19 := hid (own_ext I0X_18.out e19)
    have GX_19 := hid (own_ext GX_18.out e19)
    have Q0X_19 := hid (own_ext Q0X_18.out e19)
    have bx0p_19 := old_cell e19 bx0p_18
    clear bx0p_18
    clear E18 WX_18 I0X_18 GX_18 Q0X_18 e19
    clear Q0X_19
    go_wp2_with fail
    try clear bx0p_19
    refine (markRoom_any  I0X n0 I0Xc _ _ (1) w19 I0X_19.out (by omega) (by omega) (by omega)).mono ?_; rintro _ w20 ⟨rfl, g20, s20, o20⟩
    have E20 := hid (grown_ext E19.out I0X_19.out BI0X.out g20)
    have WX_20 := hid (WX_19.out.kept g20 NEWXI0X.out)
    have I0X_20 := hid o20
    have GX_20 := hid (GX_19.out.kept g20 NEGXI0X.out)
    clear E19 WX_19 I0X_19 GX_19 g20 s20 o20
    clear I0X_20
    have hk : ¬ ((((1 : Int) + 2 * n0) : Int) < 0) := by omega
    go_wp2_with fail
    refine (eqIntS_same GX WX mg GXc WXc (cwL l0 (⟨x1a, x1b⟩ : T2) (⟨x2a, x2b⟩ : T2)) w20 (Row.of_own GX_20.out) (Row.of_own WX_20.out) hm' (by omega)).mono ?_; rintro _ w21 ⟨rfl, e21⟩
    have E21 := hid (E20.out.trans e21)
    have WX_21 := hid (own_ext WX_20.out e21)
    have GX_21 := hid (own_ext GX_20.out e21)
    clear E20 WX_20 GX_20 e21
    go_wp2_with fail
    refine (markIntS_any GX mg GXc _ _ 1 w21 GX_21.out (by omega) (by omega) (by omega)).mono ?_; rintro _ w22 ⟨rfl, g22, s22, o22⟩
    have E22 := hid (grown_ext E21.out GX_21.out BGX.out g22)
    have WX_22 := hid (WX_21.out.kept g22 NEWXGX.out)
    have GX_22 := hid o22
    clear E21 WX_21 GX_21 g22 s22 o22
    go_wp2_with fail
    refine (heldIntS_ok GX mg GXc 1 w22 (Row.of_own GX_22.out) (by omega) (by omega) (by omega)).mono ?_; rintro _ w23 ⟨rfl, e23⟩
    have E23 := hid (E22.out.trans e23)
    have WX_23 := hid (own_ext WX_22.out e23)
    have GX_23 := hid (own_ext GX_22.out e23)
    clear E22 WX_22 GX_22 e23
    have hq : ¬ ((1 : Int) + mg < 0) := by omega
    obtain ⟨xw23, hxw23⟩ := E23.out.ex; subst hxw23
    go_wp2_with fail
    refine wp_region_x [.q 0, .q 2, .q 4, .u 1, .u 3, .u 5, .u 6, .q 7, .q 8, .q 9, .q 10, .q 11] (by kernel_rfl) (by kernel_rfl) (fun w24 e24 => ?_)
    have E24 := hid (E23.out.trans e24)
    have WX_24 := hid (own_ext WX_23.out e24)
    have GX_24 := hid (own_ext GX_23.out e24)
    clear E23 WX_23 GX_23 e24
    have HZ24 := hid (Ext.refl w24)
    have px24_0_0 := old_cell (a := ⟨w.heap.size, 0, none⟩) (u := .slice A0 n0 c0) E24.out (by go_simp)
    have px24_1_0 := old_cell (a := ⟨w.heap.size + 1, 0, none⟩) (u := .int .i64 x1a) E24.out (by go_simp)
    have px24_1_1 := old_cell (a := ⟨w.heap.size + 1, 1, none⟩) (u := .int .i64 x1b) E24.out (by go_simp)
    have px24_2_0 := old_cell (a := ⟨w.heap.size + 1 + 1, 0, none⟩) (u := .int .i64 x2a) E24.out (by go_simp)
    have px24_2_1 := old_cell (a := ⟨w.heap.size + 1 + 1, 1, none⟩) (u := .int .i64 x2b) E24.out (by go_simp)
    simp only [pick, List.getElem?_cons_succ, List.getElem?_cons_zero]
    repeat (refine wpZ_q (fun K hK => ?_); go_simp; refine hK _ ?_; clear hK K)
    clear px24_0_0
    clear px24_1_0
    clear px24_1_1
    clear px24_2_0
    clear px24_2_1
    refine wpZ_u ?_; refine stepH_of (fun K hK => ?_); go_simp
    refine (toRoom_any A0 n0 c0 l0 w24 (hr0.ext (Ext.trans (by repeat (first | exact Ext.refl _ | refine Ext.alloc ?_ _ | assumption | refine Ext.over ?_ _ | refine Ext.drew ?_ | refine Ext.drewN ?_ _)) E24.out)) hl0 (by omega)).mono ?_; rintro _ w25 ⟨H0X, H0Xc, rfl, o25, e25⟩
    refine ⟨_, rfl, hK _ _ (ext_below e25 HZ24.out.size) ?_⟩; clear hK K
    have HZ25 := hid (HZ24.out.trans e25)
    have NEWXH0X := hid (own_ne WX_24.out o25 (Nat.le_refl _)); have NEH0XWX := hid (own_ne' WX_24.out o25 (Nat.le_refl _))
    have NEGXH0X := hid (own_ne GX_24.out o25 (Nat.le_refl _)); have NEH0XGX := hid (own_ne' GX_24.out o25 (Nat.le_refl _))
    have BH0X := hid E24.out.size
    have E25 := hid (E24.out.trans e25)
    have WX_25 := hid (own_ext WX_24.out e25)
    have GX_25 := hid (own_ext GX_24.out e25)
    have H0X_25 := hid o25
    clear E24 WX_24 GX_24 e25 o25
    refine wpZ_u ?_; refine stepH_of (fun K hK => ?_); go_simp
    refine (toPoint_any x1a x1b w25).mono ?_; rintro _ w26 ⟨rfl, e26⟩
    refine ⟨_, rfl, hK _ _ (ext_below e26 HZ25.out.size) ?_⟩; clear hK K
    have HZ26 := hid (HZ25.out.trans e26)
    have E26 := hid (E25.out.trans e26)
    have WX_26 := hid (own_ext WX_25.out e26)
    have GX_26 := hid (own_ext GX_25.out e26)
    have H0X_26 := hid (own_ext H0X_25.out e26)
    clear E25 WX_25 GX_25 H0X_25 e26
    refine wpZ_u ?_; refine stepH_of (fun K hK => ?_); go_simp
    refine (toPoint_any x2a x2b w26).mono ?_; rintro _ w27 ⟨rfl, e27⟩
    refine ⟨_, rfl, hK _ _ (ext_below e27 HZ26.out.size) ?_⟩; clear hK K
    have HZ27 := hid (HZ26.out.trans e27)
    have E27 := hid (E26.out.trans e27)
    have WX_27 := hid (own_ext WX_26.out e27)
    have GX_27 := hid (own_ext GX_26.out e27)
    have H0X_27 := hid (own_ext H0X_26.out e27)
    clear E26 WX_26 GX_26 H0X_26 e27
    refine wpZ_u ?_; refine stepH_of (fun K hK => ?_); go_simp
    refine (iWay_at H0X n0 H0Xc l0 x1a x1b x2a x2b w27 (Row.of_own H0X_27.out) hl0 (by omega) hb).mono ?_; rintro _ w28 ⟨HX, mh, HXc, rfl, o28, e28⟩
    refine ⟨_, rfl, hK _ _ (ext_below e28 HZ27.out.size) ?_⟩; clear hK K
    have HZ28 := hid (HZ27.out.trans e28)
    have hmh := own_len o28; obtain rfl : mg = mh := by omega
    have NEWXHX := hid (own_ne WX_27.out o28 (Nat.le_refl _)); have NEHXWX := hid (own_ne' WX_27.out o28 (Nat.le_refl _))
    have NEGXHX := hid (own_ne GX_27.out o28 (Nat.le_refl _)); have NEHXGX := hid (own_ne' GX_27.out o28 (Nat.le_refl _))
    have NEH0XHX := hid (own_ne H0X_27.out o28 (Nat.le_refl _)); have NEHXH0X := hid (own_ne' H0X_27.out o28 (Nat.le_refl _))
    have BHX := hid E27.out.size
    have E28 := hid (E27.out.trans e28)
    have WX_28 := hid (own_ext WX_27.out e28)
    have GX_28 := hid (own_ext GX_27.out e28)
    have H0X_28 := hid (own_ext H0X_27.out e28)
    have HX_28 := hid o28
    clear E27 WX_27 GX_27 H0X_27 e28 o28
    repeat (refine wpZ_q (fun K hK => ?_); go_simp; refine hK _ ?_; clear hK K)
    refine wpZ_nil ?_
    clear H0X_28
    go_wp2_with fail
    refine (eqIntS_same HX WX mg HXc WXc (cwL l0 (⟨x1a, x1b⟩ : T2) (⟨x2a, x2b⟩ : T2)) w28 (Row.of_own HX_28.out) (Row.of_own WX_28.out) hm' (by omega)).mono ?_; rintro _ w29 ⟨rfl, e29⟩
    have E29 := hid (E28.out.trans e29)
    have WX_29 := hid (own_ext WX_28.out e29)
    have GX_29 := hid (own_ext GX_28.out e29)
    have HX_29 := hid (own_ext HX_28.out e29)
    clear E28 WX_28 GX_28 HX_28 e29
    go_wp2_with fail
    refine (heldIntS_ok GX mg GXc 1 w29 (Row.of_own GX_29.out) (by omega) (by omega) (by omega)).mono ?_; rintro _ w30 ⟨rfl, e30⟩
    have E30 := hid (E29.out.trans e30)
    have WX_30 := hid (own_ext WX_29.out e30)
    have GX_30 := hid (own_ext GX_29.out e30)
    have HX_30 := hid (own_ext HX_29.out e30)
    clear E29 WX_29 GX_29 HX_29 e30
    go_wp2_with fail
    go_ret
    exact ⟨rfl, Ext.trans (by repeat (first | exact Ext.refl _ | refine Ext.alloc ?_ _ | assumption | refine Ext.over ?_ _ | refine Ext.drew ?_ | refine Ext.drewN ?_ _)) E30.out⟩
  · (unfold Gives; go_enter Try.func3, Try.ntmps3)
    go_wp2_with fail
    refine (szRoom_no  A0 n0 c0 (1048576) _ (by omega) (by omega) (by omega) (by omega)).mono ?_; rintro _ w1 ⟨rfl, e1⟩
    have E1 := hid e1
    clear e1
    go_wp2_with fail
    go_ret
    exact ⟨rfl, Ext.trans (by repeat (first | exact Ext.refl _ | refine Ext.alloc ?_ _ | assumption | refine Ext.over ?_ _ | refine Ext.drew ?_ | refine Ext.drewN ?_ _)) E1.out⟩
theorem walk (w : World) (A0 : Option Addr) (n0 c0 : Nat) (l0 : List T2) (hr0 : Row w A0 (l0.flatMap T2.v)) (hl0 : l0.length = n0) (hn0 : n0 ≤ maxLen) (hok0 : ∀ x ∈ l0, x.ok) (x1a : Int) (x1b : Int) (hx1a : i64r x1a) (hx1b : i64r x1b) (x2a : Int) (x2b : Int) (hx2a : i64r x2a) (hx2b : i64r x2b) : Gives Try.prog 3 #[.agg #[.slice A0 n0 c0], .agg #[.int .i64 x1a, .int .i64 x1b], .agg #[.int .i64 x2a, .int .i64 x2b]] w (.bool true) := by
  cases hb : (isIn l0 ⟨x1a, x1b⟩ && isIn l0 ⟨x2a, x2b⟩)
  · exact walkF w A0 n0 c0 l0 hr0 hl0 hn0 hok0 x1a x1b hx1a hx1b x2a x2b hx2a hx2b hb
  · exact walkT w A0 n0 c0 l0 hr0 hl0 hn0 hok0 x1a x1b hx1a hx1b x2a x2b hx2a hx2b hb

end fnExactCornerWay
end Go.Proofs.Ytkifapcegiajiaa
