/- FnExactFrameOk. -/
import Derived.Test.YthapnilopdidnaaT1
import Derived.Test.YthapnilopdidnaaFrame
namespace Go.Proofs.Ythapnilopdidnaa
open Go.ChangeShapes Go.WideShapes Go.ChangeAt Go.RowKit Go.Deep

theorem specFrameOk_any (a b c : Int) (w : World) : Gives Try.prog 15 #[.agg #[.int .i64 a, .int .i64 b, .int .i64 c]] w (.bool (btw a 0 100000 && btw b 0 1000000 && btw c 0 999999)) := by
  unfold Gives
  go_enter Try.func15, Try.ntmps15
  go_wp2_with (go_at_call 50; refine (l01In_any _ _ _ _).over.mono ?_; rintro e w' ⟨rfl, x, rfl⟩)
  all_goals (go_ret; refine ⟨by simp [*], ?_⟩; repeat (first | exact Ext.refl _ | refine Ext.alloc ?_ _ | refine Ext.over ?_ _))

namespace fnExactFrameOk
theorem walk (a b c : Int) (w : World) : Gives Try.prog 3 #[.agg #[.int .i64 a, .int .i64 b, .int .i64 c]] w (.bool true) := by
  unfold Gives
  go_enter Try.func3, Try.ntmps3
  go_wp2_with (first | (go_at_call 15; refine (specFrameOk_any _ _ _ _).over.mono ?_; rintro e w' ⟨rfl, x, rfl⟩) | (go_at_call 17; refine (FrameOk_any _ _ _ _).over.mono ?_; rintro e w' ⟨rfl, x, rfl⟩) | (go_at_call 16; refine (toFrame_any _ _ _ _).over.mono ?_; rintro e w' ⟨rfl, x, rfl⟩))
  all_goals (go_ret; refine ⟨by simp [*], ?_⟩; repeat (first | exact Ext.refl _ | refine Ext.alloc ?_ _ | refine Ext.over ?_ _))

theorem contract (H : Type) (enc : TypeId × Value → H) (W : World) (base : Nat) (args : Array Value) (ds gs : List (DataW H)) (before : List MemPlace)
    (hval : ∀ (j : Nat) t v, Try.f3.params[j]? = some t → args[j]? = some v → Value.okWide Try.prog W .any base t v)
    (hW : DataW.Whole enc Try.prog Try.f3.params.toList Rows.fnExactFrameOkSpec.vars false W args.toList ds gs before) :
    Calls Try.prog 3 args W fun e W' => ∃ v, e = .returned v ∧ Rows.fnExactFrameOkSpec.post enc Try.prog Try.f3 false true false false W args v W' := by
  have hW' := hW
  obtain ⟨p, q, hA0, hV, rfl, hfz, hnd⟩ := hW
  have hA : DataW.TrodAll enc Try.prog W 0 (fun _ => true) true Try.f3.params.toList args.toList ds p := hA0
  rw [Try.params3] at hA hval
  obtain ⟨v0, vs0, d0, ds0, p0, q0, hargs, rfl, rfl, h0, r0⟩ := trodAll_cons hA
  obtain ⟨rfl, rfl, rfl⟩ := trodAll_nil r0
  obtain rfl : args = #[v0] := by cases args; simp_all
  obtain ⟨rfl, rfl⟩ := trodVars_none hV
  obtain ⟨z, rfl, hz, hb⟩ := open_flat (f := 4) (n := 3) (by kernel_rfl) Try.underlying23 (by kernel_rfl) (hval 0 23 v0 rfl rfl) h0
  match z, hz with
  | [z0, z1, z2], _ =>
  refine (walk z0 z1 z2 W).mono fun e W' ⟨he, hg⟩ => ?_
  subst he
  exact ⟨_, rfl, post_true laidOut (by kernel_rfl) rfl rfl rfl Try.underlying4 hW' hg⟩

set_option maxRecDepth 100000 in
theorem lifted (os : Os) (started : os.Started) (H : Type) (enc : TypeId × Value → H) :
    ReturnsInHanded {} Try.checked os 3 .any (Rows.fnExactFrameOkSpec.pre6 enc Try.prog Try.f3 Rows.fnExactFrameOkRow.domain false) (Rows.fnExactFrameOkSpec.post enc Try.prog Try.f3 false true false false) := by
  refine returnsInHanded_of_change (C := Try.checked) own started (by kernel_rfl) Try.func3
    (ChangeSpec.witness6 (enc := enc) (C := Try.checked) false ⟨#[], #[.agg #[.int .i64 0, .int .i64 0, .int .i64 0]], []⟩ 8 (by kernel_rfl) (by kernel_rfl) (by kernel_rfl) (by kernel_rfl)) ?_
  intro W base args ds gs before hval0 hW hcnd _
  exact contract H enc W base args ds gs before hval0 hW

theorem proved : Rows.FnExactFrameOkSaid :=
  OpenClaim.holds_of_wide 3 Try.f3 rfl rfl rfl rfl rfl rfl rfl ⟨rfl, rfl, rfl, rfl, rfl⟩ rfl rfl rfl rfl rfl (by kernel_rfl) Try.func3 (by kernel_rfl)
    (of_decide_eq_true (by kernel_rfl)) (by unfold Func.isWrapper; first | (rw [if_pos (by decide +kernel)]; kernel_rfl) | (rw [if_neg (by decide +kernel)]; exact ⟨rfl, rfl⟩))
    (fun os started H enc _ => lifted os started H enc)
#print axioms proved
end fnExactFrameOk
end Go.Proofs.Ythapnilopdidnaa
