/- The walk of FnExactSealAfter: it returns true. Conditions: its arguments read as lists.  -/
import Derived.Test.YtbhbpibghjiknaaSeal
import Derived.Test.YtbhbpibghjiknaaRow
namespace Go.Proofs.Ytbhbpibghjiknaa
open Go.RowKit
set_option linter.unusedVariables false
namespace fnExactSealAfter
theorem walk (a : Int) (_ : i64r a) (b : Int) (_ : i64r b) (s : ByteArray) (hs : s.size ≤ maxLen) (w : World) : Gives Try.prog 5 #[.int .i64 a, .int .i64 b, .string s] w (.bool true) := by
  unfold maxLen at hs
  (unfold Gives; go_enter Try.func5, Try.ntmps5)
  go_wp2_with (first | (go_at_call 21; refine (sSeal_any _ _ _ hs _).over.mono ?_; rintro e w' ⟨rfl, xw, rfl⟩) | (go_at_call 22; refine (iSeal_any _ _ _ hs _).over.mono ?_; rintro e w' ⟨rfl, xw, rfl⟩))
  all_goals (go_ret; refine ⟨by first | rfl | (go_tidy; simp_all; done) | (go_tidy; simp at *; omega), ?_⟩; repeat (first | exact Ext.refl _ | refine Ext.alloc ?_ _ | assumption | refine Ext.over ?_ _ | refine Ext.drew ?_ | refine Ext.drewN ?_ _))

end fnExactSealAfter
end Go.Proofs.Ytbhbpibghjiknaa
