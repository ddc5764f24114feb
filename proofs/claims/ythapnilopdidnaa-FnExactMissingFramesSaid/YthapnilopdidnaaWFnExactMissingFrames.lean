/- The walk of FnExactMissingFrames: it returns true. Conditions: its arguments read as lists.  -/
import Derived.Test.YthapnilopdidnaaMiss
import Derived.Test.YthapnilopdidnaaHelp
namespace Go.Proofs.Ythapnilopdidnaa
open Go.RowKit
set_option linter.unusedVariables false
namespace fnExactMissingFrames
set_option maxHeartbeats 1600000 in
theorem walk (A : Option Addr) (n c : Nat) (l : List T3) (w : World) (hr : Row w A (l.flatMap T3.v)) (hl : l.length = n) (hn : n ≤ maxLen) (hok : ∀ x ∈ l, x.ok) : Gives Try.prog 14 #[.slice A n c] w (.bool true) := by
  unfold maxLen at hn
  by_cases hbig : (n : Int) ≤ 1048576
  · have hlen : (miss l).length ≤ 8388608 := by have := miss_len l; omega
    (unfold Gives; go_enter Try.func14, Try.ntmps14)
    go_wp2_with fail
    refine (szFrameS_ok A n c 1048576 w (by omega) (by omega)).mono ?_; rintro _ w1 ⟨rfl, e1⟩
    have E1 := hid (e1)
    have hb1 : ¬ ((1048576 : Int) - n < 0) := by omega
    go_wp2_with fail
    refine (toFrameS_any A n c l w1 (hr.ext E1.out) hl (by omega)).mono ?_; rintro _ w2 ⟨A2, c2, rfl, o2, e2⟩
    have E2 := hid (E1.out.trans e2)
    clear E1
    have HA2 := hid o2; clear o2 e1 e2
    go_wp2_with fail
    refine (sMissing_any A2 n c2 l w2 (Row.of_own HA2.out) hl (by omega)).mono ?_; rintro _ w3 ⟨Aw, m, cw, rfl, o3, e3⟩
    have E3 := hid (E2.out.trans e3)
    have B3 := hid (E3.out.size)
    clear E2
    have hm := own_len o3; have W3 := hid o3; clear HA2
    go_wp2_with fail
    refine (toFrameS_any A n c l w3 (hr.ext E3.out) hl (by omega)).mono ?_; rintro _ w4 ⟨Ax, cx, rfl, o4, e4⟩
    have NWX := hid (own_ne o3 o4 (Nat.le_refl _)); clear o3
    have E4 := hid (E3.out.trans e4)
    have W4 := hid (own_ext W3.out e4)
    clear E3 W3
    have X4 := hid o4
    have BX : w.heap.size ≤ w3.heap.size := B3.out; clear B3
    go_wp2_with fail
    refine (iMissing_any Ax n cx l w4 (Row.of_own X4.out) hl (by omega)).mono ?_; rintro _ w5 ⟨Ag, m', cg, rfl, o5, e5⟩
    have hm' := own_len o5; obtain rfl : m' = m := by omega
    have NXG := hid (own_ne' o4 o5 (Nat.le_refl _)); have NWG := hid (own_ne W4.out o5 (Nat.le_refl _)); have BG : w.heap.size ≤ w4.heap.size := E4.out.size
    have E5 := hid (E4.out.trans e5)
    have W5 := hid (own_ext W4.out e5)
    have X5 := hid (own_ext X4.out e5)
    clear E4 W4 X4
    have G5 := hid o5; clear o4 o5 e3 e4 e5
    go_wp2_with fail
    refine (eqIntS_same Ag Aw m' cg cw (miss l) w5 (Row.of_own G5.out) (Row.of_own W5.out) hm' (by omega)).mono ?_; rintro _ w6 ⟨rfl, e6⟩
    have E6 := hid (E5.out.trans e6)
    have W6 := hid (own_ext W5.out e6)
    have X6 := hid (own_ext X5.out e6)
    have G6 := hid (own_ext G5.out e6)
    clear E5 W5 X5 G5
    clear e6
    go_wp2_with fail
    refine (toFrameS_any A n c l w6 (hr.ext E6.out) hl (by omega)).mono ?_; rintro _ w7 ⟨A7, c7, rfl, o7, e7⟩
    have E7 := hid (E6.out.trans e7)
    have W7 := hid (own_ext W6.out e7)
    have X7 := hid (own_ext X6.out e7)
    have G7 := hid (own_ext G6.out e7)
    clear E6 W6 X6 G6
    have HA7 := hid o7; clear o7 e7
    go_wp2_with fail
    refine (eqFrameS_same Ax A7 n cx c7 l w7 (Row.of_own X7.out) (Row.of_own HA7.out) hl (by omega)).mono ?_; rintro _ w8 ⟨rfl, e8⟩
    have E8 := hid (E7.out.trans e8)
    have W8 := hid (own_ext W7.out e8)
    have X8 := hid (own_ext X7.out e8)
    have G8 := hid (own_ext G7.out e8)
    clear E7 W7 X7 G7
    clear e8 HA7
    go_wp2_with fail
    refine (markFrameS_any Ax n cx _ _ 1 w8 X8.out (by omega) (by omega) (by omega)).mono ?_; rintro _ w9 ⟨rfl, g9, s9⟩
    have E9 := hid (grown_ext E8.out X8.out BX g9); have W9 := hid (W8.out.kept g9 NWX.out); have G9 := hid (G8.out.kept g9 NXG.out); clear E8 W8 G8 X8 g9 s9
    have hk9 : ¬ ((1 : Int) + 3 * n < 0) := by omega
    go_wp2_with fail
    refine (eqIntS_same Ag Aw m' cg cw (miss l) w9 (Row.of_own G9.out) (Row.of_own W9.out) hm' (by omega)).mono ?_; rintro _ w10 ⟨rfl, e10⟩
    have E10 := hid (E9.out.trans e10)
    have W10 := hid (own_ext W9.out e10)
    have G10 := hid (own_ext G9.out e10)
    clear E9 W9 G9
    clear e10
    go_wp2_with fail
    refine (markIntS_any Ag m' cg _ _ 1 w10 G10.out (by omega) (by omega) (by omega)).mono ?_; rintro _ w11 ⟨rfl, g11, s11, o11⟩
    have E11 := hid (grown_ext E10.out G10.out BG g11); have W11 := hid (W10.out.kept g11 NWG.out); have G11 := hid o11; clear E10 W10 G10 g11 s11 o11
    go_wp2_with fail
    refine (heldIntS_ok Ag m' cg 1 w11 (Row.of_own G11.out) (by omega) (by omega) (by omega)).mono ?_; rintro _ w12 ⟨rfl, e12⟩
    have E12 := hid (E11.out.trans e12)
    have W12 := hid (own_ext W11.out e12)
    have G12 := hid (own_ext G11.out e12)
    clear E11 W11 G11
    clear e12; have hq : ¬ ((1 : Int) + m' < 0) := by omega
    go_wp2_with fail
    refine (toFrameS_any A n c l w12 (hr.ext E12.out) hl (by omega)).mono ?_; rintro _ w13 ⟨A13, c13, rfl, o13, e13⟩
    have E13 := hid (E12.out.trans e13)
    have W13 := hid (own_ext W12.out e13)
    have G13 := hid (own_ext G12.out e13)
    clear E12 W12 G12
    have HA13 := hid o13; clear o13 e13
    go_wp2_with fail
    refine (iMissing_any A13 n c13 l w13 (Row.of_own HA13.out) hl (by omega)).mono ?_; rintro _ w14 ⟨Ah, mh, ch, rfl, o14, e14⟩
    have hmh := own_len o14; obtain rfl : m' = mh := by omega
    have E14 := hid (E13.out.trans e14)
    have W14 := hid (own_ext W13.out e14)
    have G14 := hid (own_ext G13.out e14)
    clear E13 W13 G13
    have H14 := hid o14; clear o14 e14 HA13
    go_wp2_with fail
    refine (eqIntS_same Ah Aw m' ch cw (miss l) w14 (Row.of_own H14.out) (Row.of_own W14.out) hm' (by omega)).mono ?_; rintro _ w15 ⟨rfl, e15⟩
    have E15 := hid (E14.out.trans e15)
    have W15 := hid (own_ext W14.out e15)
    have G15 := hid (own_ext G14.out e15)
    have H15 := hid (own_ext H14.out e15)
    clear E14 W14 G14 H14
    clear e15
    go_wp2_with fail
    refine (heldIntS_ok Ag m' cg 1 w15 (Row.of_own G15.out) (by omega) (by omega) (by omega)).mono ?_; rintro _ w16 ⟨rfl, e16⟩
    have E16 := hid (E15.out.trans e16)
    have W16 := hid (own_ext W15.out e16)
    have G16 := hid (own_ext G15.out e16)
    have H16 := hid (own_ext H15.out e16)
    clear E15 W15 G15 H15
    go_wp2_with fail
    go_ret
    exact ⟨rfl, E16.out⟩
  · (unfold Gives; go_enter Try.func14, Try.ntmps14)
    go_wp2_with fail
    refine (szFrameS_no A n c 1048576 w (by omega) (by omega) (by omega) (by omega)).mono ?_; rintro _ w1 ⟨rfl, e1⟩
    go_wp2_with fail
    go_ret
    exact ⟨rfl, e1⟩

end fnExactMissingFrames
end Go.Proofs.Ythapnilopdidnaa
