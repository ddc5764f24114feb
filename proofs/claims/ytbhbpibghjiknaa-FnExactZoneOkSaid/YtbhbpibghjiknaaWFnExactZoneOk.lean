/- The walk of FnExactZoneOk: it returns true. Conditions: its arguments read as lists.  -/
import Derived.Test.YtbhbpibghjiknaaZone
import Derived.Test.YtbhbpibghjiknaaHelp
namespace Go.Proofs.Ytbhbpibghjiknaa
open Go.RowKit
set_option linter.unusedVariables false
namespace fnExactZoneOk
theorem walk (a b c : Int) (_ : i64r a) (_ : i64r b) (_ : i64r c) (w : World) : Gives Try.prog 3 #[.agg #[.int .i64 a, .int .i64 b, .int .i64 c]] w (.bool true) := by
  (unfold Gives; go_enter Try.func3, Try.ntmps3)
  go_wp2_with (first | (go_at_call 16; refine (sZoneOk_any _ _ _ _).over.mono ?_; rintro e w' ⟨rfl, xw, rfl⟩) | (go_at_call 18; refine (iZoneOk_any _ _ _ _).over.mono ?_; rintro e w' ⟨rfl, xw, rfl⟩) | (go_at_call 17; refine (toZone_any _ _ _ _).over.mono ?_; rintro e w' ⟨rfl, xw, rfl⟩))
  all_goals (go_ret; refine ⟨by first | rfl | (go_tidy; simp_all; done) | (go_tidy; simp at *; omega), ?_⟩; repeat (first | exact Ext.refl _ | refine Ext.alloc ?_ _ | assumption | refine Ext.over ?_ _ | refine Ext.drew ?_ | refine Ext.drewN ?_ _))

end fnExactZoneOk
end Go.Proofs.Ytbhbpibghjiknaa
