/- Walks: zones and reports. No condition. -/
import Derived.Test.YtmnpipbchcjgnaaRows
import Derived.Test.YtmnpipbchcjgnaaKit
namespace Go.Proofs.Ytmnpipbchcjgnaa
open Go.RowKit

def btw (n lo hi : Int) : Bool := decide (lo ≤ n) && decide (n ≤ hi)
theorem between_any (n lo hi : Int) (w : World) : Gives Try.prog 29 #[.int .i64 n, .int .i64 lo, .int .i64 hi] w (.bool (btw n lo hi)) := by
  unfold btw
  (unfold Gives; go_enter Try.func29, Try.ntmps29)
  go_wp2
  all_goals (go_ret; exact ⟨by first | (simp [*]; done) | (simp; omega), Ext.refl _⟩)
theorem l01In_any (n lo hi : Int) (w : World) : Gives Try.prog 55 #[.int .i64 n, .int .i64 lo, .int .i64 hi] w (.bool (btw n lo hi)) := by
  unfold btw
  (unfold Gives; go_enter Try.func55, Try.ntmps55)
  go_wp2
  all_goals (go_ret; exact ⟨by first | (simp [*]; done) | (simp; omega), Ext.refl _⟩)
theorem btw_iff {n lo hi : Int} : btw n lo hi = true ↔ lo ≤ n ∧ n ≤ hi := by unfold btw; simp
def zok (a b c : Int) : Bool := btw a 0 10000 && btw b a 10000 && btw c 0 15
theorem iZoneOk_any (a b c : Int) (w : World) : Gives Try.prog 20 #[.agg #[.int .i64 a, .int .i64 b, .int .i64 c]] w (.bool (zok a b c)) := by
  unfold zok
  (unfold Gives; go_enter Try.func20, Try.ntmps20)
  go_wp2_with (go_at_call 29; refine (between_any _ _ _ _).over.mono ?_; rintro e w' ⟨rfl, xw, rfl⟩)
  all_goals (go_ret; refine ⟨by first | rfl | (go_tidy; simp_all; done) | (go_tidy; simp at *; omega), ?_⟩; repeat (first | exact Ext.refl _ | refine Ext.alloc ?_ _ | assumption | refine Ext.over ?_ _ | refine Ext.drew ?_ | refine Ext.drewN ?_ _))
end Go.Proofs.Ytmnpipbchcjgnaa
