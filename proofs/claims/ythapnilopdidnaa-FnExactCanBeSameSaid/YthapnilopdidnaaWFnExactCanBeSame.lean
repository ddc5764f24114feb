/- The walk of FnExactCanBeSame: it returns true. Conditions: its arguments read as lists.  -/
import Derived.Test.YthapnilopdidnaaNum
import Derived.Test.YthapnilopdidnaaHelp
namespace Go.Proofs.Ythapnilopdidnaa
open Go.RowKit
set_option linter.unusedVariables false
namespace fnExactCanBeSame
theorem walk (a b c : Int) (_ : i64r a) (_ : i64r b) (_ : i64r c) (a' b' c' : Int) (_ : i64r a') (_ : i64r b') (_ : i64r c') (s : Int) (_ : i64r s) (w : World) : Gives Try.prog 5 #[.agg #[.int .i64 a, .int .i64 b, .int .i64 c], .agg #[.int .i64 a', .int .i64 b', .int .i64 c'], .int .i64 s] w (.bool true) := by
  (unfold Gives; go_enter Try.func5, Try.ntmps5)
  go_wp2_with fail
  (refine wp_region_calm (by kernel_rfl) (by kernel_rfl) ?_; (repeat (go_big_quiet_step (first | (go_at_call 21; exact (sCanBeSame_any _ _ _ _ _ _ _ _).calm) | (go_at_call 19; exact (toSighting_any _ _ _ _).calm)))); refine wpQuiet_nil ?_; rintro w1 ⟨x1, rfl⟩)
  go_wp2_with fail
  (refine wp_region_calm (by kernel_rfl) (by kernel_rfl) ?_; (repeat (go_big_quiet_step (first | (go_at_call 22; exact (iCanBeSame_any _ _ _ _ _ _ _ _).calm) | (go_at_call 19; exact (toSighting_any _ _ _ _).calm)))); refine wpQuiet_nil ?_; rintro w1 ⟨x1, rfl⟩)
  go_wp2_with fail
  all_goals (go_ret; refine ⟨by first | rfl | (go_tidy; simp_all; done) | (go_tidy; simp at *; omega), ?_⟩; repeat (first | exact Ext.refl _ | refine Ext.alloc ?_ _ | assumption | refine Ext.over ?_ _ | refine Ext.drew ?_ | refine Ext.drewN ?_ _))

end fnExactCanBeSame
end Go.Proofs.Ythapnilopdidnaa
