/- Walks: valid walls, walls that meet. No condition. -/
import Derived.Test.YtkifapcegiajiaaOn
import Derived.Test.YtkifapcegiajiaaSight
namespace Go.Proofs.Ytkifapcegiajiaa
open Go.RowKit
set_option linter.unusedVariables false

theorem poks_two (a b : T2) : poks [a, b] = (pokT a && pokT b) := by
  unfold poks allN pokAt at2; simp [List.range, List.range.loop]
theorem two_row (w : World) (g : Nat) (hg : g = w.heap.size) (a b c d : Int) (t : TypeId) : Row (w.alloc (.cells #[.int .i64 a, .int .i64 b, .int .i64 c, .int .i64 d] t)) (some ⟨g, 0, none⟩) (([⟨a, b⟩, ⟨c, d⟩] : List T2).flatMap T2.v) :=
  Row.lit w g hg [.int .i64 a, .int .i64 b, .int .i64 c, .int .i64 d] t
theorem iWallOk_any (a b : T2) (w : World) : Gives Try.prog 99 #[wallV a b] w (.bool (wokP a b)) := by
  unfold wallV
  cases h1 : poks [⟨a.a, a.b⟩, ⟨b.a, b.b⟩]
  · have HC := hid (show wokP a b = false by unfold wokP; rw [← poks_two a b, show poks [a, b] = false from h1]; rfl)
    (unfold Gives; go_enter Try.func99, Try.ntmps99)
    go_wp2_with (go_at_call 81; refine (pointsOk_any _ _ _ [⟨a.a, a.b⟩, ⟨b.a, b.b⟩] _ (two_row _ _ (by simp) _ _ _ _ _) rfl (by simp)).over.mono ?_; rintro e w' ⟨rfl, xw, rfl⟩)
    go_ret
    refine ⟨by rw [HC.out]; rfl, ?_⟩
    repeat (first | exact Ext.refl _ | refine Ext.alloc ?_ _ | assumption | refine Ext.over ?_ _ | refine Ext.drew ?_ | refine Ext.drewN ?_ _)
  · have HC := hid (show wokP a b = !eqP a b by unfold wokP; rw [← poks_two a b, show poks [a, b] = true from h1]; rfl)
    (unfold Gives; go_enter Try.func99, Try.ntmps99)
    go_wp2_with (go_at_call 81; refine (pointsOk_any _ _ _ [⟨a.a, a.b⟩, ⟨b.a, b.b⟩] _ (two_row _ _ (by simp) _ _ _ _ _) rfl (by simp)).over.mono ?_; rintro e w' ⟨rfl, xw, rfl⟩)
    all_goals
      go_ret
      refine ⟨(congrArg (fun b => Ending.returned (Value.bool b)) (?_ : _ = wokP a b)), ?_⟩
      · rw [HC.out]; unfold eqP; simp [*]
      · repeat (first | exact Ext.refl _ | refine Ext.alloc ?_ _ | assumption | refine Ext.over ?_ _ | refine Ext.drew ?_ | refine Ext.drewN ?_ _)
theorem sWallOk_any (a b : T2) (w : World) : Gives Try.prog 94 #[wallV a b] w (.bool (wokP a b)) := by
  unfold wallV
  have HC := hid (show wokP a b = (pok a.a a.b && pok b.a b.b && !((a.a == b.a) && (a.b == b.b))) from rfl)
  (unfold Gives; go_enter Try.func94, Try.ntmps94)
  go_wp2_with (go_at_call 75; refine (sPointOk_any _ _ _).over.mono ?_; rintro e w' ⟨rfl, xw, rfl⟩)
  all_goals
    go_ret
    refine ⟨(congrArg (fun b => Ending.returned (Value.bool b)) (?_ : _ = wokP a b)), ?_⟩
    · rw [HC.out]; first | (simp [*]; done) | (simp_all; done)
    · repeat (first | exact Ext.refl _ | refine Ext.alloc ?_ _ | assumption | refine Ext.over ?_ _ | refine Ext.drew ?_ | refine Ext.drewN ?_ _)
theorem sIsBetween_any (p a b : T2) (w : World) : Gives Try.prog 104 #[ptV p, ptV a, ptV b] w (.bool ((pok p.a p.b && pok a.a a.b && pok b.a b.b) && onP p a b)) := by
  unfold ptV
  (unfold Gives; go_enter Try.func104, Try.ntmps104)
  go_wp2_with (first | (go_at_call 75; refine (sPointOk_any _ _ _).over.mono ?_; rintro e w' ⟨rfl, xw, rfl⟩) | (go_at_call 59; refine (sOn_any _ _ _ _).over.mono ?_; rintro e w' ⟨rfl, xw, rfl⟩))
  all_goals
    go_ret
    refine ⟨(congrArg (fun b => Ending.returned (Value.bool b)) (?_ : _ = ((pok p.a p.b && pok a.a a.b && pok b.a b.b) && onP p a b))), ?_⟩
    · simp [*]
    · repeat (first | exact Ext.refl _ | refine Ext.alloc ?_ _ | assumption | refine Ext.over ?_ _ | refine Ext.drew ?_ | refine Ext.drewN ?_ _)
def onwP (a b p : T2) : Bool := wokP a b && ((pok p.a p.b && pok a.a a.b && pok b.a b.b) && onP p a b)
theorem sIsOnWall_any (a b p : T2) (w : World) : Gives Try.prog 96 #[wallV a b, ptV p] w (.bool (onwP a b p)) := by
  unfold ptV wallV
  (unfold Gives; go_enter Try.func96, Try.ntmps96)
  go_wp2_with (first | (go_at_call 94; refine (sWallOk_any _ _ _).over.mono ?_; rintro e w' ⟨rfl, xw, rfl⟩) | (go_at_call 104; refine (sIsBetween_any _ _ _ _).over.mono ?_; rintro e w' ⟨rfl, xw, rfl⟩))
  all_goals
    go_ret
    refine ⟨(congrArg (fun b => Ending.returned (Value.bool b)) (?_ : _ = onwP a b p)), ?_⟩
    · unfold onwP; simp [*]
    · repeat (first | exact Ext.refl _ | refine Ext.alloc ?_ _ | assumption | refine Ext.over ?_ _ | refine Ext.drew ?_ | refine Ext.drewN ?_ _)
theorem sDoCross_any (a b c d : T2) (w : World) : Gives Try.prog 95 #[wallV a b, wallV c d] w (.bool (wokP a b && wokP c d && crossP a b c d)) := by
  unfold wallV
  (unfold Gives; go_enter Try.func95, Try.ntmps95)
  go_wp2_with (first | (go_at_call 94; refine (sWallOk_any _ _ _).over.mono ?_; rintro e w' ⟨rfl, xw, rfl⟩) | (go_at_call 58; refine (s3Cross_any _ _ _ _ _).over.mono ?_; rintro e w' ⟨rfl, xw, rfl⟩))
  all_goals
    go_ret
    refine ⟨(congrArg (fun b => Ending.returned (Value.bool b)) (?_ : _ = (wokP a b && wokP c d && crossP a b c d))), ?_⟩
    · simp [*]
    · repeat (first | exact Ext.refl _ | refine Ext.alloc ?_ _ | assumption | refine Ext.over ?_ _ | refine Ext.drew ?_ | refine Ext.drewN ?_ _)
theorem wok_pok {a b : T2} (h : wokP a b = true) : pok a.a a.b = true ∧ pok b.a b.b = true := by
  unfold wokP pokT at h; simp only [Bool.and_eq_true] at h; exact h.1
theorem onw_eq {a b p : T2} (h : wokP a b = true) (hp : pok p.a p.b = true) : onwP a b p = onP p a b := by
  unfold onwP; rw [h, hp, (wok_pok h).1, (wok_pok h).2]; simp
theorem iDoMeet_any (a b c d : T2) (w : World) : Gives Try.prog 83 #[wallV a b, wallV c d] w (.bool (meetP a b c d)) := by
  unfold wallV
  (unfold Gives; go_enter Try.func83, Try.ntmps83)
  go_wp2_with (first | (go_at_call 99; refine (iWallOk_any _ _ _).over.mono ?_; rintro e w' ⟨rfl, xw, rfl⟩) | (go_at_call 66; refine (iCross_any _ _ _ _ _).over.mono ?_; rintro e w' ⟨rfl, xw, rfl⟩) | (go_at_call 86; refine (on_any _ _ _ _).over.mono ?_; rintro e w' ⟨rfl, xw, rfl⟩))
  all_goals
    go_ret
    refine ⟨(congrArg (fun b => Ending.returned (Value.bool b)) (?_ : _ = meetP a b c d)), ?_⟩
    · unfold meetP meetQ; rw [crossP_symm a b c d]; simp [*]
    · repeat (first | exact Ext.refl _ | refine Ext.alloc ?_ _ | assumption | refine Ext.over ?_ _ | refine Ext.drew ?_ | refine Ext.drewN ?_ _)
theorem sDoMeet_any (a b c d : T2) (w : World) : Gives Try.prog 77 #[wallV a b, wallV c d] w (.bool (meetP a b c d)) := by
  unfold wallV
  cases h1 : wokP a b
  · have HC := hid (show meetP a b c d = false by unfold meetP; rw [h1]; rfl)
    (unfold Gives; go_enter Try.func77, Try.ntmps77)
    go_wp2_with (go_at_call 94; refine (gives_b h1 (sWallOk_any _ _ _)).over.mono ?_; rintro e w' ⟨rfl, xw, rfl⟩)
    go_ret
    refine ⟨by rw [HC.out]; rfl, ?_⟩
    repeat (first | exact Ext.refl _ | refine Ext.alloc ?_ _ | assumption | refine Ext.over ?_ _ | refine Ext.drew ?_ | refine Ext.drewN ?_ _)
  cases h2 : wokP c d
  · have HC := hid (show meetP a b c d = false by unfold meetP; rw [h1, h2]; rfl)
    (unfold Gives; go_enter Try.func77, Try.ntmps77)
    go_wp2_with (go_at_call 94; refine (sWallOk_any _ _ _).over.mono ?_; rintro e w' ⟨rfl, xw, rfl⟩)
    go_ret
    refine ⟨by rw [HC.out]; rfl, ?_⟩
    repeat (first | exact Ext.refl _ | refine Ext.alloc ?_ _ | assumption | refine Ext.over ?_ _ | refine Ext.drew ?_ | refine Ext.drewN ?_ _)
  · obtain ⟨pa, pb⟩ := wok_pok h1
    obtain ⟨pc, pd⟩ := wok_pok h2
    have HC := hid (show meetP a b c d = (crossP a b c d || onwP a b c || onwP a b d || onwP c d a || onwP c d b) by
      unfold meetP meetQ; rw [h1, h2, onw_eq h1 pc, onw_eq h1 pd, onw_eq h2 pa, onw_eq h2 pb]
      cases crossP a b c d <;> cases onP a c d <;> cases onP b c d <;> cases onP c a b <;> cases onP d a b <;> rfl)
    clear pa pb pc pd
    (unfold Gives; go_enter Try.func77, Try.ntmps77)
    go_wp2_with (first | (go_at_call 94; refine (sWallOk_any _ _ _).over.mono ?_; rintro e w' ⟨rfl, xw, rfl⟩) | (go_at_call 95; refine (sDoCross_any _ _ _ _ _).over.mono ?_; rintro e w' ⟨rfl, xw, rfl⟩) | (go_at_call 96; refine (sIsOnWall_any _ _ _ _).over.mono ?_; rintro e w' ⟨rfl, xw, rfl⟩))
    all_goals
      go_ret
      refine ⟨(congrArg (fun b => Ending.returned (Value.bool b)) (?_ : _ = meetP a b c d)), ?_⟩
      · rw [HC.out]; simp [*]
      · repeat (first | exact Ext.refl _ | refine Ext.alloc ?_ _ | assumption | refine Ext.over ?_ _ | refine Ext.drew ?_ | refine Ext.drewN ?_ _)
end Go.Proofs.Ytkifapcegiajiaa
