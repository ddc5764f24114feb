/- Walks of the helpers of the laws: copies, comparisons, marks. No condition but sizes. -/
import Derived.Test.YtmghngdafgebjaaRows
import Derived.Test.YtmghngdafgebjaaRowM
import Derived.Test.YtmghngdafgebjaaHelpR
namespace Go.Proofs.Ytmghngdafgebjaa
open Go.RowKit

/-! ### Camera -/
theorem toCamera_any (a : Int) (b : Int) (c : Int) (d : Int) (e : Int) (f : Int) (g : Int) (w : World) : Gives Try.prog 13 #[.agg #[.int .i64 a, .int .i64 b, .int .i64 c, .int .i64 d, .int .i64 e, .int .i64 f, .int .i64 g]] w (.agg #[.int .i64 a, .int .i64 b, .int .i64 c, .int .i64 d, .int .i64 e, .int .i64 f, .int .i64 g]) := by
  (unfold Gives; go_enter Try.func13, Try.ntmps13)
  go_wp2_with (go_at_call 14; refine (toPoint_any _ _ _).over.mono ?_; rintro e w' ⟨rfl, xw, rfl⟩)
  refine bodyPost_ret (v := .agg #[.int .i64 a, .int .i64 b, .int .i64 c, .int .i64 d, .int .i64 e, .int .i64 f, .int .i64 g]) (by simp [results, Try.results13, go_sem]) rfl ⟨rfl, ?_⟩
  repeat (first | exact Ext.refl _ | refine Ext.alloc ?_ _ | assumption | refine Ext.over ?_ _ | refine Ext.drew ?_ | refine Ext.drewN ?_ _)
theorem eqCamera_same (a : Int) (b : Int) (c : Int) (d : Int) (e : Int) (f : Int) (g : Int) (w : World) : Gives Try.prog 43 #[.agg #[.int .i64 a, .int .i64 b, .int .i64 c, .int .i64 d, .int .i64 e, .int .i64 f, .int .i64 g], .agg #[.int .i64 a, .int .i64 b, .int .i64 c, .int .i64 d, .int .i64 e, .int .i64 f, .int .i64 g]] w (.bool true) := by
  (unfold Gives; go_enter Try.func43, Try.ntmps43)
  go_wp2_with (go_at_call 52; refine (eqPoint_same _ _ _).over.mono ?_; rintro e w' ⟨rfl, xw, rfl⟩)
  all_goals (go_ret; refine ⟨by first | rfl | (go_tidy; simp_all; done) | (go_tidy; simp at *; omega), ?_⟩; repeat (first | exact Ext.refl _ | refine Ext.alloc ?_ _ | assumption | refine Ext.over ?_ _ | refine Ext.drew ?_ | refine Ext.drewN ?_ _))
end Go.Proofs.Ytmghngdafgebjaa
