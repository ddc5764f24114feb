/- Walks: small functions on numbers. -/
import Derived.Test.YthapnilopdidnaaRows
import Derived.Test.YthapnilopdidnaaKit
namespace Go.Proofs.Ythapnilopdidnaa
open Go.RowKit

def btw (n lo hi : Int) : Bool := decide (lo ≤ n) && decide (n ≤ hi)

theorem between_any (n lo hi : Int) (w : World) : Gives Try.prog 51 #[.int .i64 n, .int .i64 lo, .int .i64 hi] w (.bool (btw n lo hi)) := by
  unfold Gives btw
  go_enter Try.func51, Try.ntmps51
  go_wp2
  all_goals (go_ret; exact ⟨by first | (simp [*]; done) | (simp; omega), Ext.refl _⟩)

theorem l01In_any (n lo hi : Int) (w : World) : Gives Try.prog 50 #[.int .i64 n, .int .i64 lo, .int .i64 hi] w (.bool (btw n lo hi)) := by
  unfold Gives btw
  go_enter Try.func50, Try.ntmps50
  go_wp2
  all_goals (go_ret; exact ⟨by first | (simp [*]; done) | (simp; omega), Ext.refl _⟩)

def squareW (ax ay bx by' : Int) : Int := wrap64 (wrap64 (wrap64 (ax - bx) * wrap64 (ax - bx)) + wrap64 (wrap64 (ay - by') * wrap64 (ay - by')))
theorem square_any (ax ay bx by' : Int) (w : World) : Gives Try.prog 56 #[.agg #[.int .i64 ax, .int .i64 ay], .agg #[.int .i64 bx, .int .i64 by']] w (.int .i64 (squareW ax ay bx by')) := by
  unfold Gives
  go_enter Try.func56, Try.ntmps56
  go_wp2
  go_ret
  exact ⟨rfl, ((Ext.refl _).alloc _).alloc _⟩

theorem FrameOk_any (a b c : Int) (w : World) : Gives Try.prog 17 #[.agg #[.int .i64 a, .int .i64 b, .int .i64 c]] w (.bool (btw a 0 100000 && btw b 0 1000000 && btw c 0 999999)) := by
  unfold Gives
  go_enter Try.func17, Try.ntmps17
  go_wp2_with (go_at_call 51; refine (between_any _ _ _ _).over.mono ?_; rintro e w' ⟨rfl, x, rfl⟩)
  all_goals (go_ret; refine ⟨by simp [*], ?_⟩; repeat (first | exact Ext.refl _ | refine Ext.alloc ?_ _ | refine Ext.over ?_ _))
theorem toFrame_any (a b c : Int) (w : World) : Gives Try.prog 16 #[.agg #[.int .i64 a, .int .i64 b, .int .i64 c]] w (.agg #[.int .i64 a, .int .i64 b, .int .i64 c]) := by
  unfold Gives
  go_enter Try.func16, Try.ntmps16
  go_wp2_with fail
  refine bodyPost_ret (v := .agg #[.int .i64 a, .int .i64 b, .int .i64 c]) (by simp [results, Try.results16, go_sem]) rfl ⟨rfl, ?_⟩
  repeat (first | exact Ext.refl _ | refine Ext.alloc ?_ _ | refine Ext.over ?_ _)
theorem toPoint_any (a b : Int) (w : World) : Gives Try.prog 53 #[.agg #[.int .i64 a, .int .i64 b]] w (.agg #[.int .i64 a, .int .i64 b]) := by
  unfold Gives
  go_enter Try.func53, Try.ntmps53
  go_wp2_with fail
  refine bodyPost_ret (v := .agg #[.int .i64 a, .int .i64 b]) (by simp [results, Try.results53, go_sem]) rfl ⟨rfl, ?_⟩
  repeat (first | exact Ext.refl _ | refine Ext.alloc ?_ _ | refine Ext.over ?_ _)
theorem toSighting_any (a b c : Int) (w : World) : Gives Try.prog 19 #[.agg #[.int .i64 a, .int .i64 b, .int .i64 c]] w (.agg #[.int .i64 a, .int .i64 b, .int .i64 c]) := by
  unfold Gives
  go_enter Try.func19, Try.ntmps19
  go_wp2_with (go_at_call 53; refine (toPoint_any _ _ _).over.mono ?_; rintro e w' ⟨rfl, x, rfl⟩)
  refine bodyPost_ret (v := .agg #[.int .i64 a, .int .i64 b, .int .i64 c]) (by simp [results, Try.results19, go_sem]) rfl ⟨rfl, ?_⟩
  repeat (first | exact Ext.refl _ | refine Ext.alloc ?_ _ | refine Ext.over ?_ _)
end Go.Proofs.Ythapnilopdidnaa
