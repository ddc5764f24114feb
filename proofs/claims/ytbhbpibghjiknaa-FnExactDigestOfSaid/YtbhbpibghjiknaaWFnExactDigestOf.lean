/- The walk of FnExactDigestOf: it returns true. Conditions: its arguments read as lists.  -/
import Derived.Test.YtbhbpibghjiknaaSeal
import Derived.Test.YtbhbpibghjiknaaRow
namespace Go.Proofs.Ytbhbpibghjiknaa
open Go.RowKit
set_option linter.unusedVariables false
namespace fnExactDigestOf
theorem walk (s : ByteArray) (hs : s.size ≤ maxLen) (w : World) : Gives Try.prog 4 #[.string s] w (.bool true) := by
  unfold maxLen at hs
  (unfold Gives; go_enter Try.func4, Try.ntmps4)
  go_wp2_with (first | (go_at_call 19; refine (sDigest_any _ hs _).over.mono ?_; rintro e w' ⟨rfl, xw, rfl⟩) | (go_at_call 20; refine (iDigest_any _ hs _).over.mono ?_; rintro e w' ⟨rfl, xw, rfl⟩))
  all_goals (go_ret; refine ⟨by first | rfl | (go_tidy; simp_all; done) | (go_tidy; simp at *; omega), ?_⟩; repeat (first | exact Ext.refl _ | refine Ext.alloc ?_ _ | assumption | refine Ext.over ?_ _ | refine Ext.drew ?_ | refine Ext.drewN ?_ _))

end fnExactDigestOf
end Go.Proofs.Ytbhbpibghjiknaa
