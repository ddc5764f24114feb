/- The walk of FnExactFewestTracks: it returns true. Conditions: its arguments read as lists.  -/
import Derived.Test.YthapnilopdidnaaFewest
import Derived.Test.YthapnilopdidnaaHelp
namespace Go.Proofs.Ythapnilopdidnaa
open Go.RowKit
set_option linter.unusedVariables false
namespace fnExactFewestTracks
theorem walk (A : Option Addr) (n c : Nat) (l : List T3) (w : World) (hr : Row w A (l.flatMap T3.v)) (hl : l.length = n) (hn : n ≤ maxLen) (hok : ∀ x ∈ l, x.ok) (s : Int) (hs : i64r s) : Gives Try.prog 13 #[.slice A n c, .int .i64 s] w (.bool true) := by
  unfold maxLen at hn
  by_cases hbig : (n : Int) ≤ 1048576
  · (unfold Gives; go_enter Try.func13, Try.ntmps13)
    go_wp2_with fail
    refine (szSightingS_ok A n c 1048576 w (by omega) (by omega)).mono ?_; rintro e w1 ⟨rfl, e1⟩
    have hb1 : ¬ ((1048576 : Int) - n < 0) := by omega
    go_wp2_with fail
    refine (toSightingS_any A n c l w1 (hr.ext e1) hl (by omega)).mono ?_; rintro e w2 ⟨A2, c2, rfl, o2, e2⟩
    have H2 := hid o2
    have E2 := hid (e1.trans e2)
    clear o2 e1 e2
    go_wp2_with fail
    refine (sFewest_any A2 n c2 l s w2 (Row.of_own H2.out) hl (by omega)).mono ?_; rintro e w3 ⟨rfl, e3⟩
    have E3 := hid (E2.out.trans e3)
    clear e3 E2 H2
    go_wp2_with fail
    refine (toSightingS_any A n c l w3 (hr.ext E3.out) hl (by omega)).mono ?_; rintro e w4 ⟨A4, c4, rfl, o4, e4⟩
    have H4 := hid o4
    have E4 := hid (E3.out.trans e4)
    clear o4 e4 E3
    go_wp2_with fail
    refine (iFewest_any A4 n c4 l s w4 (Row.of_own H4.out) hl (by omega)).mono ?_; rintro e w5 ⟨rfl, e5⟩
    have H5 := hid (own_ext H4.out e5)
    have E5 := hid (E4.out.trans e5)
    clear e5 E4 H4
    go_wp2_with fail
    refine (toSightingS_any A n c l w5 (hr.ext E5.out) hl (by omega)).mono ?_; rintro e w6 ⟨A6, c6, rfl, o6, e6⟩
    have H6 := hid o6
    have H7 := hid (own_ext H5.out e6)
    have E6 := hid (E5.out.trans e6)
    clear o6 e6 E5 H5
    go_wp2_with fail
    refine (eqSightingS_same A4 A6 n c4 c6 l w6 (Row.of_own H7.out) (Row.of_own H6.out) hl (by omega)).mono ?_; rintro e w7 ⟨rfl, e7⟩
    go_wp2_with fail
    go_ret
    exact ⟨rfl, E6.out.trans e7⟩
  · (unfold Gives; go_enter Try.func13, Try.ntmps13)
    go_wp2_with fail
    refine (szSightingS_no A n c 1048576 w (by omega) (by omega) (by omega) (by omega)).mono ?_; rintro e w1 ⟨rfl, e1⟩
    go_wp2_with fail
    go_ret
    exact ⟨rfl, e1⟩

end fnExactFewestTracks
end Go.Proofs.Ythapnilopdidnaa
