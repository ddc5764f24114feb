/- The walk of FnExactWorstGap: it returns true. Conditions: its arguments read as lists.  -/
import Derived.Test.YtjjiadjnbpfpdaaWorst
import Derived.Test.YtjjiadjnbpfpdaaHelpR
import Derived.Test.YtjjiadjnbpfpdaaHer
namespace Go.Proofs.Ytjjiadjnbpfpdaa
open Go.RowKit
set_option linter.unusedVariables false
namespace fnExactWorstGap
set_option maxHeartbeats 3200000 in
set_option maxRecDepth 100000 in
theorem walk (w : World) (A0 : Option Addr) (n0 c0 : Nat) (l0 : List T2) (hr0 : Row w A0 (l0.flatMap T2.v)) (hl0 : l0.length = n0) (hn0 : n0 ≤ maxLen) (hok0 : ∀ x ∈ l0, x.ok) (A1 : Option Addr) (n1 c1 : Nat) (l1 : List T2) (hr1 : Row w A1 (l1.flatMap T2.v)) (hl1 : l1.length = n1) (hn1 : n1 ≤ maxLen) (hok1 : ∀ x ∈ l1, x.ok) : Gives Try.prog 7 #[.agg #[.slice A0 n0 c0], .slice A1 n1 c1] w (.bool true) := by
  unfold maxLen at hn0
  unfold maxLen at hn1
  by_cases hbig0 : (n0 : Int) ≤ 1048576
  · by_cases hbig1 : (n1 : Int) ≤ 1048576 - n0
    · (unfold Gives; go_enter Try.func7, Try.ntmps7)
      go_wp2_with fail
      refine (szRoom_ok  A0 n0 c0 (1048576) _ (by omega) (by omega)).mono ?_; rintro _ w1 ⟨rfl, e1⟩
      have E1 := hid e1
      clear e1
      have hb0 : ¬ ((((1048576 : Int) - n0) : Int) < 0) := by omega
      go_wp2_with fail
      refine (szPointS_ok  A1 n1 c1 (1048576 - n0) w1 (by omega) (by omega)).mono ?_; rintro _ w2 ⟨rfl, e2⟩
      have E2 := hid (E1.out.trans e2)
      clear E1 e2
      have hb1 : ¬ ((((1048576 : Int) - n0 - n1) : Int) < 0) := by omega
      obtain ⟨xw2, hxw2⟩ := E2.out.ex; subst hxw2
      go_wp2_with fail
      refine (toRoom_any A0 n0 c0 l0 _ (hr0.ext (Ext.trans (by repeat (first | exact Ext.refl _ | refine Ext.alloc ?_ _ | assumption | refine Ext.over ?_ _ | refine Ext.drew ?_ | refine Ext.drewN ?_ _)) E2.out)) hl0 (by omega)).mono ?_; rintro _ w3 ⟨S0X, S0Xc, rfl, o3, e3⟩
      have E3 := hid (E2.out.trans e3)
      have S0X_3 := hid o3
      clear E2 e3 o3
      go_wp2_with fail
      refine (toPointS_any A1 n1 c1 l1 w3 (hr1.ext (Ext.trans (by repeat (first | exact Ext.refl _ | refine Ext.alloc ?_ _ | assumption | refine Ext.over ?_ _ | refine Ext.drew ?_ | refine Ext.drewN ?_ _)) E3.out)) hl1 (by omega)).mono ?_; rintro _ w4 ⟨S1X, S1Xc, rfl, o4, e4⟩
      have E4 := hid (E3.out.trans e4)
      have S0X_4 := hid (own_ext S0X_3.out e4)
      have S1X_4 := hid o4
      clear E3 S0X_3 e4 o4
      go_wp2_with fail
      refine (sWorst_any S0X n0 S0Xc l0 S1X n1 S1Xc l1 w4 (Row.of_own S0X_4.out) hl0 (by omega) (Row.of_own S1X_4.out) hl1 (by omega)).mono ?_; rintro _ w5 ⟨rfl, e5⟩
      have E5 := hid (E4.out.trans e5)
      have S0X_5 := hid (own_ext S0X_4.out e5)
      have S1X_5 := hid (own_ext S1X_4.out e5)
      clear E4 S0X_4 S1X_4 e5
      clear S0X_5
      clear S1X_5
      obtain ⟨xw5, hxw5⟩ := E5.out.ex; subst hxw5
      go_wp2_with fail
      refine (toRoom_any A0 n0 c0 l0 _ (hr0.ext (Ext.trans (by repeat (first | exact Ext.refl _ | refine Ext.alloc ?_ _ | assumption | refine Ext.over ?_ _ | refine Ext.drew ?_ | refine Ext.drewN ?_ _)) E5.out)) hl0 (by omega)).mono ?_; rintro _ w6 ⟨I0X, I0Xc, rfl, o6, e6⟩
      have E6 := hid (E5.out.trans e6)
      have I0X_6 := hid o6
      clear E5 e6 o6
      go_wp2_with fail
      obtain ⟨w7, hw7⟩ : ∃ w7, w7 = World.alloc w6 (.cells #[.slice I0X n0 I0Xc] 30) := ⟨_, rfl⟩
      rw [← hw7]
      have e7 : Ext w6 w7 := by rw [hw7]; repeat (first | exact Ext.refl _ | refine Ext.alloc ?_ _ | assumption | refine Ext.over ?_ _ | refine Ext.drew ?_ | refine Ext.drewN ?_ _)
      have bx0p := (show w7.cell? ⟨w6.heap.size, 0, none⟩ = some (.slice I0X n0 I0Xc) by rw [hw7]; go_simp)
      clear hw7
      have E7 := hid (E6.out.trans e7)
      have I0X_7 := hid (own_ext I0X_6.out e7)
      clear E6 I0X_6 e7
      refine (toPointS_any A1 n1 c1 l1 w7 (hr1.ext (Ext.trans (by repeat (first | exact Ext.refl _ | refine Ext.alloc ?_ _ | assumption | refine Ext.over ?_ _ | refine Ext.drew ?_ | refine Ext.drewN ?_ _)) E7.out)) hl1 (by omega)).mono ?_; rintro _ w8 ⟨I1X, I1Xc, rfl, o8, e8⟩
      have E8 := hid (E7.out.trans e8)
      have I0X_8 := hid (own_ext I0X_7.out e8)
      have I1X_8 := hid o8
      have bx0p_8 := old_cell e8 bx0p
      clear bx0p
      clear E7 I0X_7 e8 o8
      go_wp2_with fail
      refine (iWorst_any I0X n0 I0Xc l0 I1X n1 I1Xc l1 w8 (Row.of_own I0X_8.out) hl0 (by omega) (Row.of_own I1X_8.out) hl1 (by omega)).mono ?_; rintro _ w9 ⟨rfl, e9⟩
      have E9 := hid (E8.out.trans e9)
      have I0X_9 := hid (own_ext I0X_8.out e9)
      have I1X_9 := hid (own_ext I1X_8.out e9)
      have bx0p_9 := old_cell e9 bx0p_8
      clear bx0p_8
      clear E8 I0X_8 I1X_8 e9
      obtain ⟨xw9, hxw9⟩ := E9.out.ex; subst hxw9
      go_wp2_with fail
      refine wp_region_her [true, true, false, false, false] (by kernel_rfl) (by kernel_rfl) ?_
      simp only [selB, notB, List.map_cons, List.map_nil, Bool.not_true, Bool.not_false]
      repeat (refine wpH_step (fun K hK => ?_); go_simp; refine hK _ ?_; clear hK K)
      refine wpH_nil ?_
      refine wpT_step (fun w10 hw10 K hK => ?_)
      have e10 := later_ext hw10; clear hw10
      have E10 := hid (E9.out.trans e10)
      have I0X_10 := hid (own_ext I0X_9.out e10)
      have I1X_10 := hid (own_ext I1X_9.out e10)
      have bx0p_10 := old_cell e10 bx0p_9
      clear bx0p_9
      clear E9 I0X_9 I1X_9 e10
      go_simp
      refine (toRoom_any A0 n0 c0 l0 w10 (hr0.ext (Ext.trans (by repeat (first | exact Ext.refl _ | refine Ext.alloc ?_ _ | assumption | refine Ext.over ?_ _ | refine Ext.drew ?_ | refine Ext.drewN ?_ _)) E10.out)) hl0 (by omega)).mono ?_; rintro _ w11 ⟨Q0X, Q0Xc, rfl, o11, e11⟩
      refine ⟨_, rfl, hK _ _ e11.ex ?_⟩; clear hK K
      have E11 := hid (E10.out.trans e11)
      have I0X_11 := hid (own_ext I0X_10.out e11)
      have I1X_11 := hid (own_ext I1X_10.out e11)
      have Q0X_11 := hid o11
      have bx0p_11 := old_cell e11 bx0p_10
      clear bx0p_10
      clear E10 I0X_10 I1X_10 e11 o11
      refine wpT_step (fun w12 hw12 K hK => ?_)
      have e12 := later_ext hw12; clear hw12
      have E12 := hid (E11.out.trans e12)
      have I0X_12 := hid (own_ext I0X_11.out e12)
      have I1X_12 := hid (own_ext I1X_11.out e12)
      have Q0X_12 := hid (own_ext Q0X_11.out e12)
      have bx0p_12 := old_cell e12 bx0p_11
      clear bx0p_11
      clear E11 I0X_11 I1X_11 Q0X_11 e12
      go_simp
      refine (eqRoom_same  I0X Q0X n0 I0Xc Q0Xc l0 w12 (Row.of_own I0X_12.out) (Row.of_own Q0X_12.out) hl0 (by omega)).mono ?_; rintro _ w13 ⟨rfl, e13⟩
      refine ⟨_, rfl, hK _ _ e13.ex ?_⟩; clear hK K
      have E13 := hid (E12.out.trans e13)
      have I0X_13 := hid (own_ext I0X_12.out e13)
      have I1X_13 := hid (own_ext I1X_12.out e13)
      have Q0X_13 := hid (own_ext Q0X_12.out e13)
      have bx0p_13 := old_cell e13 bx0p_12
      clear bx0p_12
      clear E12 I0X_12 I1X_12 Q0X_12 e13
      refine wpT_step (fun w14 hw14 K hK => ?_)
      have e14 := later_ext hw14; clear hw14
      have E14 := hid (E13.out.trans e14)
      have I0X_14 := hid (own_ext I0X_13.out e14)
      have I1X_14 := hid (own_ext I1X_13.out e14)
      have Q0X_14 := hid (own_ext Q0X_13.out e14)
      have bx0p_14 := old_cell e14 bx0p_13
      clear bx0p_13
      clear E13 I0X_13 I1X_13 Q0X_13 e14
      go_simp; refine hK _ _ (Ext.ex (Ext.refl w14)) ?_; clear hK K
      refine wpT_nil (fun w15 hw15 => ?_)
      have e15 := later_ext hw15; clear hw15
      have E15 := hid (E14.out.trans e15)
      have I0X_15 := hid (own_ext I0X_14.out e15)
      have I1X_15 := hid (own_ext I1X_14.out e15)
      have Q0X_15 := hid (own_ext Q0X_14.out e15)
      have bx0p_15 := old_cell e15 bx0p_14
      clear bx0p_14
      clear E14 I0X_14 I1X_14 Q0X_14 e15
      clear Q0X_15
      clear I0X_15
      go_wp2_with fail
      refine (toPointS_any A1 n1 c1 l1 w15 (hr1.ext (Ext.trans (by repeat (first | exact Ext.refl _ | refine Ext.alloc ?_ _ | assumption | refine Ext.over ?_ _ | refine Ext.drew ?_ | refine Ext.drewN ?_ _)) E15.out)) hl1 (by omega)).mono ?_; rintro _ w16 ⟨Q1X, Q1Xc, rfl, o16, e16⟩
      have E16 := hid (E15.out.trans e16)
      have I1X_16 := hid (own_ext I1X_15.out e16)
      have Q1X_16 := hid o16
      have bx0p_16 := old_cell e16 bx0p_15
      clear bx0p_15
      clear E15 I1X_15 e16 o16
      go_wp2_with fail
      refine (eqPointS_same  I1X Q1X n1 I1Xc Q1Xc l1 w16 (Row.of_own I1X_16.out) (Row.of_own Q1X_16.out) hl1 (by omega)).mono ?_; rintro _ w17 ⟨rfl, e17⟩
      have E17 := hid (E16.out.trans e17)
      have I1X_17 := hid (own_ext I1X_16.out e17)
      have Q1X_17 := hid (own_ext Q1X_16.out e17)
      have bx0p_17 := old_cell e17 bx0p_16
      clear bx0p_16
      clear E16 I1X_16 Q1X_16 e17
      clear Q1X_17
      clear I1X_17
      go_wp2_with fail
      go_ret
      exact ⟨rfl, Ext.trans (by repeat (first | exact Ext.refl _ | refine Ext.alloc ?_ _ | assumption | refine Ext.over ?_ _ | refine Ext.drew ?_ | refine Ext.drewN ?_ _)) E17.out⟩
    · (unfold Gives; go_enter Try.func7, Try.ntmps7)
      go_wp2_with fail
      refine (szRoom_ok  A0 n0 c0 (1048576) _ (by omega) (by omega)).mono ?_; rintro _ w1 ⟨rfl, e1⟩
      have E1 := hid e1
      clear e1
      have hb0 : ¬ ((((1048576 : Int) - n0) : Int) < 0) := by omega
      go_wp2_with fail
      refine (szPointS_no  A1 n1 c1 (1048576 - n0) w1 (by omega) (by omega) (by omega) (by omega)).mono ?_; rintro _ w2 ⟨rfl, e2⟩
      have E2 := hid (E1.out.trans e2)
      clear E1 e2
      go_wp2_with fail
      go_ret
      exact ⟨rfl, Ext.trans (by repeat (first | exact Ext.refl _ | refine Ext.alloc ?_ _ | assumption | refine Ext.over ?_ _ | refine Ext.drew ?_ | refine Ext.drewN ?_ _)) E2.out⟩
  · (unfold Gives; go_enter Try.func7, Try.ntmps7)
    go_wp2_with fail
    refine (szRoom_no  A0 n0 c0 (1048576) _ (by omega) (by omega) (by omega) (by omega)).mono ?_; rintro _ w1 ⟨rfl, e1⟩
    have E1 := hid e1
    clear e1
    go_wp2_with fail
    go_ret
    exact ⟨rfl, Ext.trans (by repeat (first | exact Ext.refl _ | refine Ext.alloc ?_ _ | assumption | refine Ext.over ?_ _ | refine Ext.drew ?_ | refine Ext.drewN ?_ _)) E1.out⟩

end fnExactWorstGap
end Go.Proofs.Ytjjiadjnbpfpdaa
