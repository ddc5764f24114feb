/- Walks: functions on numbers, points, frames and sightings. No condition. -/
import Derived.Test.YtnjmhdlcmbpfpaaRows
import Derived.Test.YtnjmhdlcmbpfpaaKit
namespace Go.Proofs.Ytnjmhdlcmbpfpaa
open Go.RowKit

def btw (n lo hi : Int) : Bool := decide (lo ≤ n) && decide (n ≤ hi)
theorem between_any (n lo hi : Int) (w : World) : Gives Try.prog 22 #[.int .i64 n, .int .i64 lo, .int .i64 hi] w (.bool (btw n lo hi)) := by
  unfold btw
  (unfold Gives; go_enter Try.func22, Try.ntmps22)
  go_wp2
  all_goals (go_ret; exact ⟨by first | (simp [*]; done) | (simp; omega), Ext.refl _⟩)
def pok (x y : Int) : Bool := btw x (-40) 40 && btw y (-40) 40
theorem iPointOk_any (x y : Int) (w : World) : Gives Try.prog 34 #[.agg #[.int .i64 x, .int .i64 y]] w (.bool (pok x y)) := by
  unfold pok
  (unfold Gives; go_enter Try.func34, Try.ntmps34)
  go_wp2_with (go_at_call 22; refine (between_any _ _ _ _).over.mono ?_; rintro e w' ⟨rfl, xw, rfl⟩)
  all_goals (go_ret; refine ⟨by first | rfl | (go_tidy; simp_all; done) | (go_tidy; simp at *; omega), ?_⟩; repeat (first | exact Ext.refl _ | refine Ext.alloc ?_ _ | assumption | refine Ext.over ?_ _ | refine Ext.drew ?_ | refine Ext.drewN ?_ _))
def fok (a b c : Int) : Bool := btw a 0 100000 && btw b 0 1000000 && btw c 0 999999
theorem iFrameOk_any (a b c : Int) (w : World) : Gives Try.prog 30 #[.agg #[.int .i64 a, .int .i64 b, .int .i64 c]] w (.bool (fok a b c)) := by
  unfold fok
  (unfold Gives; go_enter Try.func30, Try.ntmps30)
  go_wp2_with (go_at_call 22; refine (between_any _ _ _ _).over.mono ?_; rintro e w' ⟨rfl, xw, rfl⟩)
  all_goals (go_ret; refine ⟨by first | rfl | (go_tidy; simp_all; done) | (go_tidy; simp at *; omega), ?_⟩; repeat (first | exact Ext.refl _ | refine Ext.alloc ?_ _ | assumption | refine Ext.over ?_ _ | refine Ext.drew ?_ | refine Ext.drewN ?_ _))
def sok (a x y : Int) : Bool := btw a 0 1000 && pok x y
theorem iSightingOk_any (a x y : Int) (w : World) : Gives Try.prog 27 #[.agg #[.int .i64 a, .int .i64 x, .int .i64 y]] w (.bool (sok a x y)) := by
  unfold sok
  (unfold Gives; go_enter Try.func27, Try.ntmps27)
  go_wp2_with (first | (go_at_call 22; refine (between_any _ _ _ _).over.mono ?_; rintro e w' ⟨rfl, xw, rfl⟩) | (go_at_call 34; refine (iPointOk_any _ _ _).over.mono ?_; rintro e w' ⟨rfl, xw, rfl⟩))
  all_goals (go_ret; refine ⟨by first | rfl | (go_tidy; simp_all; done) | (go_tidy; simp at *; omega), ?_⟩; repeat (first | exact Ext.refl _ | refine Ext.alloc ?_ _ | assumption | refine Ext.over ?_ _ | refine Ext.drew ?_ | refine Ext.drewN ?_ _))
def squareW (ax ay bx by' : Int) : Int := wrap64 (wrap64 (wrap64 (ax - bx) * wrap64 (ax - bx)) + wrap64 (wrap64 (ay - by') * wrap64 (ay - by')))
theorem square_any (ax ay bx by' : Int) (w : World) : Gives Try.prog 28 #[.agg #[.int .i64 ax, .int .i64 ay], .agg #[.int .i64 bx, .int .i64 by']] w (.int .i64 (squareW ax ay bx by')) := by
  (unfold Gives; go_enter Try.func28, Try.ntmps28)
  go_wp2
  go_ret
  exact ⟨rfl, ((Ext.refl _).alloc _).alloc _⟩
theorem btw_iff {n lo hi : Int} : btw n lo hi = true ↔ lo ≤ n ∧ n ≤ hi := by unfold btw; simp
theorem pok_iff {x y : Int} : pok x y = true ↔ (-40 ≤ x ∧ x ≤ 40) ∧ (-40 ≤ y ∧ y ≤ 40) := by unfold pok; simp [btw_iff]
theorem sok_iff {a x y : Int} : sok a x y = true ↔ (0 ≤ a ∧ a ≤ 1000) ∧ (-40 ≤ x ∧ x ≤ 40) ∧ (-40 ≤ y ∧ y ≤ 40) := by unfold sok; simp [btw_iff, pok_iff]
theorem mul_small {p q : Int} {m : Int} (hp : -m ≤ p ∧ p ≤ m) (hq : -m ≤ q ∧ q ≤ m) : -(m * m) ≤ p * q ∧ p * q ≤ m * m := by
  have hm : 0 ≤ m := by omega
  have h1 : p.natAbs ≤ m.natAbs := by omega
  have h2 : q.natAbs ≤ m.natAbs := by omega
  have h3 : (p * q).natAbs ≤ m.natAbs * m.natAbs := by rw [Int.natAbs_mul]; exact Nat.mul_le_mul h1 h2
  have h4 : (m * m).natAbs = m.natAbs * m.natAbs := Int.natAbs_mul m m
  have h5 : 0 ≤ m * m := Int.mul_nonneg hm hm
  omega
theorem self_nonneg (p : Int) : 0 ≤ p * p := by
  rcases Int.le_total 0 p with h | h
  · exact Int.mul_nonneg h h
  · exact Int.mul_nonneg_of_nonpos_of_nonpos h h
def sq (ax ay bx by' : Int) : Int := (ax - bx) * (ax - bx) + (ay - by') * (ay - by')
theorem sq_comm (ax ay bx by' : Int) : sq ax ay bx by' = sq bx by' ax ay := by
  unfold sq
  have e1 : (ax - bx) * (ax - bx) = (bx - ax) * (bx - ax) := by rw [← Int.neg_sub bx ax, Int.neg_mul_neg]
  have e2 : (ay - by') * (ay - by') = (by' - ay) * (by' - ay) := by rw [← Int.neg_sub by' ay, Int.neg_mul_neg]
  rw [e1, e2]
theorem sq_bd {ax ay bx by' : Int} (ha : pok ax ay = true) (hb : pok bx by' = true) : 0 ≤ sq ax ay bx by' ∧ sq ax ay bx by' ≤ 12800 := by
  rw [pok_iff] at ha hb
  have h1 := mul_small (p := ax - bx) (q := ax - bx) (m := 80) (by omega) (by omega)
  have h2 := mul_small (p := ay - by') (q := ay - by') (m := 80) (by omega) (by omega)
  have h3 : 0 ≤ (ax - bx) * (ax - bx) := self_nonneg _
  have h4 : 0 ≤ (ay - by') * (ay - by') := self_nonneg _
  unfold sq; omega
theorem squareW_eq {ax ay bx by' : Int} (ha : pok ax ay = true) (hb : pok bx by' = true) : squareW ax ay bx by' = sq ax ay bx by' := by
  have h0 := sq_bd ha hb
  rw [pok_iff] at ha hb
  have h1 := mul_small (p := ax - bx) (q := ax - bx) (m := 80) (by omega) (by omega)
  have h2 := mul_small (p := ay - by') (q := ay - by') (m := 80) (by omega) (by omega)
  unfold squareW
  rw [IntWalk.wrap64_in (ax - bx) (by omega), IntWalk.wrap64_in (ay - by') (by omega), IntWalk.wrap64_in ((ax - bx) * (ax - bx)) (by omega), IntWalk.wrap64_in ((ay - by') * (ay - by')) (by omega), IntWalk.wrap64_in]
  · rfl
  · unfold sq at h0; omega
def canBe (a x y a' x' y' s : Int) : Bool := sok a x y && sok a' x' y' && btw s 1 20 && decide (a < a') && decide (sq x y x' y' ≤ (s * (a' - a)) * (s * (a' - a)))
theorem canBe_calc {a x y a' x' y' s : Int} (h1 : sok a x y = true) (h2 : sok a' x' y' = true) (h3 : btw s 1 20 = true) (h4 : a < a') :
    canBe a x y a' x' y' s = decide (squareW x y x' y' ≤ wrap64 (wrap64 (s * wrap64 (a' - a)) * wrap64 (s * wrap64 (a' - a)))) := by
  unfold canBe
  rw [h1, h2, h3, decide_eq_true h4]
  rw [sok_iff] at h1 h2
  rw [btw_iff] at h3
  rw [squareW_eq (pok_iff.2 ⟨h1.2.1, h1.2.2⟩) (pok_iff.2 ⟨h2.2.1, h2.2.2⟩)]
  have hm := mul_small (p := s) (q := a' - a) (m := 1000) (by omega) (by omega)
  have hm2 := mul_small (p := s * (a' - a)) (q := s * (a' - a)) (m := 1000000) (by omega) (by omega)
  rw [IntWalk.wrap64_in (a' - a) (by omega), IntWalk.wrap64_in (s * (a' - a)) (by omega), IntWalk.wrap64_in _ (by omega)]
  simp
theorem canBe_no1 {a x y a' x' y' s : Int} (h : ¬ sok a x y = true) : canBe a x y a' x' y' s = false := by unfold canBe; simp [h]
theorem canBe_no2 {a x y a' x' y' s : Int} (h : ¬ sok a' x' y' = true) : canBe a x y a' x' y' s = false := by unfold canBe; simp [h]
theorem canBe_no3 {a x y a' x' y' s : Int} (h : ¬ btw s 1 20 = true) : canBe a x y a' x' y' s = false := by unfold canBe; simp [h]
theorem canBe_no4 {a x y a' x' y' s : Int} (h : a' ≤ a) : canBe a x y a' x' y' s = false := by unfold canBe; simp [show ¬ a < a' by omega]
theorem sok_pok {a x y : Int} (h : sok a x y = true) : pok x y = true := by rw [sok_iff] at h; exact pok_iff.2 h.2
theorem squareW_comm {ax ay bx by' : Int} (ha : pok ax ay = true) (hb : pok bx by' = true) : squareW ax ay bx by' = squareW bx by' ax ay := by
  rw [squareW_eq ha hb, squareW_eq hb ha, sq_comm]
theorem iCanBeSame_any (a x y a' x' y' s : Int) (w : World) : Gives Try.prog 13 #[.agg #[.int .i64 a, .int .i64 x, .int .i64 y], .agg #[.int .i64 a', .int .i64 x', .int .i64 y'], .int .i64 s] w (.bool (canBe a x y a' x' y' s)) := by
  (unfold Gives; go_enter Try.func13, Try.ntmps13)
  go_wp2_with (first | (go_at_call 27; refine (iSightingOk_any _ _ _ _).over.mono ?_; rintro e w' ⟨rfl, xw, rfl⟩) | (go_at_call 22; refine (between_any _ _ _ _).over.mono ?_; rintro e w' ⟨rfl, xw, rfl⟩) | (go_at_call 28; refine (square_any _ _ _ _ _).over.mono ?_; rintro e w' ⟨rfl, xw, rfl⟩))
  all_goals (go_ret; refine ⟨?_, ?_⟩; rotate_left; repeat (first | exact Ext.refl _ | refine Ext.alloc ?_ _ | assumption | refine Ext.over ?_ _ | refine Ext.drew ?_ | refine Ext.drewN ?_ _))
  · rw [canBe_no4 (by assumption)]; rfl
  · rw [canBe_calc (by assumption) (by assumption) (by assumption) (by assumption)]
    first | rfl | (rw [squareW_comm (sok_pok (by assumption)) (sok_pok (by assumption))]; rfl)
  · rw [canBe_no3 (by assumption)]; rfl
  · rw [canBe_no2 (by assumption)]; rfl
  · rw [canBe_no1 (by assumption)]; rfl
end Go.Proofs.Ytnjmhdlcmbpfpaa
