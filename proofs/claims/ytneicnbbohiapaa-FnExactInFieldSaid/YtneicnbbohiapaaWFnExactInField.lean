/- The walk of FnExactInField: it returns true. Conditions: its arguments read as lists.  -/
import Derived.Test.YtneicnbbohiapaaCam
import Derived.Test.YtneicnbbohiapaaHelpC
namespace Go.Proofs.Ytneicnbbohiapaa
open Go.RowKit
set_option linter.unusedVariables false
namespace fnExactInField
set_option maxRecDepth 100000 in
theorem walk (x0a : Int) (x0b : Int) (x0c : Int) (x0d : Int) (x0e : Int) (x0f : Int) (x0g : Int) (_ : i64r x0a) (_ : i64r x0b) (_ : i64r x0c) (_ : i64r x0d) (_ : i64r x0e) (_ : i64r x0f) (_ : i64r x0g) (x1a x1b : Int) (_ : i64r x1a) (_ : i64r x1b) (w : World) : Gives Try.prog 4 #[.agg #[.int .i64 x0a, .int .i64 x0b, .int .i64 x0c, .int .i64 x0d, .int .i64 x0e, .int .i64 x0f, .int .i64 x0g], .agg #[.int .i64 x1a, .int .i64 x1b]] w (.bool true) := by
  (unfold Gives; go_enter Try.func4, Try.ntmps4)
  go_wp2_with fail
  (refine wp_region_calm (by kernel_rfl) (by kernel_rfl) ?_; (repeat (go_big_quiet_step (first | (go_at_call 16; exact (sInField_any ⟨x0a, x0b, x0c, x0d, x0e, x0f, x0g⟩ _ _ _).calm) | (go_at_call 14; exact (toCamera_any _ _ _ _ _ _ _ _).calm) | (go_at_call 17; exact (toPoint_any _ _ _).calm)))); refine wpQuiet_nil ?_; rintro w1 ⟨x1, rfl⟩)
  go_wp2_with fail
  (refine wp_region_calm (by kernel_rfl) (by kernel_rfl) ?_; (repeat (go_big_quiet_step (first | (go_at_call 18; exact (iInField_any ⟨x0a, x0b, x0c, x0d, x0e, x0f, x0g⟩ _ _ _).calm) | (go_at_call 14; exact (toCamera_any _ _ _ _ _ _ _ _).calm) | (go_at_call 17; exact (toPoint_any _ _ _).calm)))); refine wpQuiet_nil ?_; rintro w1 ⟨x1, rfl⟩)
  go_wp2_with fail
  all_goals (go_ret; refine ⟨by first | rfl | (go_tidy; simp_all; done) | (go_tidy; simp at *; omega), ?_⟩; repeat (first | exact Ext.refl _ | refine Ext.alloc ?_ _ | assumption | refine Ext.over ?_ _ | refine Ext.drew ?_ | refine Ext.drewN ?_ _))

end fnExactInField
end Go.Proofs.Ytneicnbbohiapaa
