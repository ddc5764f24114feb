/- Walks of the helpers of the laws: copies, comparisons, marks. No condition but sizes. -/
import Derived.Test.YtneicnbbohiapaaRows
import Derived.Test.YtneicnbbohiapaaRowM
namespace Go.Proofs.Ytneicnbbohiapaa
open Go.RowKit

/-! ### Point -/
theorem toPoint_any (a : Int) (b : Int) (w : World) : Gives Try.prog 17 #[.agg #[.int .i64 a, .int .i64 b]] w (.agg #[.int .i64 a, .int .i64 b]) := by
  (unfold Gives; go_enter Try.func17, Try.ntmps17)
  go_wp2_with fail
  refine bodyPost_ret (v := .agg #[.int .i64 a, .int .i64 b]) (by simp [results, Try.results17, go_sem]) rfl ⟨rfl, ?_⟩
  repeat (first | exact Ext.refl _ | refine Ext.alloc ?_ _ | assumption | refine Ext.over ?_ _ | refine Ext.drew ?_ | refine Ext.drewN ?_ _)
theorem eqPoint_same (a : Int) (b : Int) (w : World) : Gives Try.prog 58 #[.agg #[.int .i64 a, .int .i64 b], .agg #[.int .i64 a, .int .i64 b]] w (.bool true) := by
  (unfold Gives; go_enter Try.func58, Try.ntmps58)
  go_wp2_with fail
  all_goals (go_ret; refine ⟨by first | rfl | (go_tidy; simp_all; done) | (go_tidy; simp at *; omega), ?_⟩; repeat (first | exact Ext.refl _ | refine Ext.alloc ?_ _ | assumption | refine Ext.over ?_ _ | refine Ext.drew ?_ | refine Ext.drewN ?_ _))

/-! ### Camera -/
theorem toCamera_any (a : Int) (b : Int) (c : Int) (d : Int) (e : Int) (f : Int) (g : Int) (w : World) : Gives Try.prog 14 #[.agg #[.int .i64 a, .int .i64 b, .int .i64 c, .int .i64 d, .int .i64 e, .int .i64 f, .int .i64 g]] w (.agg #[.int .i64 a, .int .i64 b, .int .i64 c, .int .i64 d, .int .i64 e, .int .i64 f, .int .i64 g]) := by
  (unfold Gives; go_enter Try.func14, Try.ntmps14)
  go_wp2_with (go_at_call 17; refine (toPoint_any _ _ _).over.mono ?_; rintro e w' ⟨rfl, xw, rfl⟩)
  refine bodyPost_ret (v := .agg #[.int .i64 a, .int .i64 b, .int .i64 c, .int .i64 d, .int .i64 e, .int .i64 f, .int .i64 g]) (by simp [results, Try.results14, go_sem]) rfl ⟨rfl, ?_⟩
  repeat (first | exact Ext.refl _ | refine Ext.alloc ?_ _ | assumption | refine Ext.over ?_ _ | refine Ext.drew ?_ | refine Ext.drewN ?_ _)
theorem eqCamera_same (a : Int) (b : Int) (c : Int) (d : Int) (e : Int) (f : Int) (g : Int) (w : World) : Gives Try.prog 21 #[.agg #[.int .i64 a, .int .i64 b, .int .i64 c, .int .i64 d, .int .i64 e, .int .i64 f, .int .i64 g], .agg #[.int .i64 a, .int .i64 b, .int .i64 c, .int .i64 d, .int .i64 e, .int .i64 f, .int .i64 g]] w (.bool true) := by
  (unfold Gives; go_enter Try.func21, Try.ntmps21)
  go_wp2_with (go_at_call 58; refine (eqPoint_same _ _ _).over.mono ?_; rintro e w' ⟨rfl, xw, rfl⟩)
  all_goals (go_ret; refine ⟨by first | rfl | (go_tidy; simp_all; done) | (go_tidy; simp at *; omega), ?_⟩; repeat (first | exact Ext.refl _ | refine Ext.alloc ?_ _ | assumption | refine Ext.over ?_ _ | refine Ext.drew ?_ | refine Ext.drewN ?_ _))
end Go.Proofs.Ytneicnbbohiapaa
