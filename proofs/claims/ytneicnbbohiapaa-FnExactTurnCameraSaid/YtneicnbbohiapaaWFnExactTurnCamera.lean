/- The walk of FnExactTurnCamera: it returns true. Conditions: its arguments read as lists.  -/
import Derived.Test.YtneicnbbohiapaaCam
import Derived.Test.YtneicnbbohiapaaHelpC
namespace Go.Proofs.Ytneicnbbohiapaa
open Go.RowKit
set_option linter.unusedVariables false
namespace fnExactTurnCamera
set_option maxRecDepth 100000 in
theorem walk (x0a : Int) (x0b : Int) (x0c : Int) (x0d : Int) (x0e : Int) (x0f : Int) (x0g : Int) (_ : i64r x0a) (_ : i64r x0b) (_ : i64r x0c) (_ : i64r x0d) (_ : i64r x0e) (_ : i64r x0f) (_ : i64r x0g) (w : World) : Gives Try.prog 5 #[.agg #[.int .i64 x0a, .int .i64 x0b, .int .i64 x0c, .int .i64 x0d, .int .i64 x0e, .int .i64 x0f, .int .i64 x0g]] w (.bool true) := by
  (unfold Gives; go_enter Try.func5, Try.ntmps5)
  go_wp2_with (first | (go_at_call 14; refine (toCamera_any _ _ _ _ _ _ _ _).over.mono ?_; rintro e w' ⟨rfl, xw, rfl⟩) | (go_at_call 19; refine (show Gives Try.prog _ _ _ (.tuple #[.agg #[.int .i64 (turnCam ⟨x0a, x0b, x0c, x0d, x0e, x0f, x0g⟩).a, .int .i64 (turnCam ⟨x0a, x0b, x0c, x0d, x0e, x0f, x0g⟩).b, .int .i64 (turnCam ⟨x0a, x0b, x0c, x0d, x0e, x0f, x0g⟩).c, .int .i64 (turnCam ⟨x0a, x0b, x0c, x0d, x0e, x0f, x0g⟩).d, .int .i64 (turnCam ⟨x0a, x0b, x0c, x0d, x0e, x0f, x0g⟩).e, .int .i64 (turnCam ⟨x0a, x0b, x0c, x0d, x0e, x0f, x0g⟩).f, .int .i64 (turnCam ⟨x0a, x0b, x0c, x0d, x0e, x0f, x0g⟩).g], .bool (turnOk ⟨x0a, x0b, x0c, x0d, x0e, x0f, x0g⟩)]) from sTurnCamera_any ⟨x0a, x0b, x0c, x0d, x0e, x0f, x0g⟩ _).over.mono ?_; rintro e w' ⟨rfl, xw, rfl⟩) | (go_at_call 20; refine (show Gives Try.prog _ _ _ (.tuple #[.agg #[.int .i64 (turnCam ⟨x0a, x0b, x0c, x0d, x0e, x0f, x0g⟩).a, .int .i64 (turnCam ⟨x0a, x0b, x0c, x0d, x0e, x0f, x0g⟩).b, .int .i64 (turnCam ⟨x0a, x0b, x0c, x0d, x0e, x0f, x0g⟩).c, .int .i64 (turnCam ⟨x0a, x0b, x0c, x0d, x0e, x0f, x0g⟩).d, .int .i64 (turnCam ⟨x0a, x0b, x0c, x0d, x0e, x0f, x0g⟩).e, .int .i64 (turnCam ⟨x0a, x0b, x0c, x0d, x0e, x0f, x0g⟩).f, .int .i64 (turnCam ⟨x0a, x0b, x0c, x0d, x0e, x0f, x0g⟩).g], .bool (turnOk ⟨x0a, x0b, x0c, x0d, x0e, x0f, x0g⟩)]) from iTurnCamera_any ⟨x0a, x0b, x0c, x0d, x0e, x0f, x0g⟩ _).over.mono ?_; rintro e w' ⟨rfl, xw, rfl⟩) | (go_at_call 21; refine (eqCamera_same _ _ _ _ _ _ _ _).over.mono ?_; rintro e w' ⟨rfl, xw, rfl⟩))
  all_goals (go_ret; refine ⟨by first | rfl | (go_tidy; simp_all; done) | (go_tidy; simp at *; omega), ?_⟩; repeat (first | exact Ext.refl _ | refine Ext.alloc ?_ _ | assumption | refine Ext.over ?_ _ | refine Ext.drew ?_ | refine Ext.drewN ?_ _))

end fnExactTurnCamera
end Go.Proofs.Ytneicnbbohiapaa
