/- Walks: points are copied. Conditions: sizes. -/
import Derived.Test.YtkifapcegiajiaaCornerS
namespace Go.Proofs.Ytkifapcegiajiaa
open Go.RowKit
set_option linter.unusedVariables false

theorem info_PointC : (Try.prog.info? 35).map (fun i => (i.zero, i.size, i.bytes)) = some (some (.agg #[.int .i64 0, .int .i64 0]), 2, 16) := by kernel_rfl
theorem oneP {l : List T2} : ∀ u ∈ l.flatMap T2.v, u.oneCell' = true := by
  intro u hu
  obtain ⟨x, _, hx⟩ := List.mem_flatMap.1 hu
  simp only [T2.v, List.mem_cons, List.not_mem_nil, or_false] at hx
  rcases hx with rfl | rfl <;> rfl
set_option maxRecDepth 100000 in
set_option maxHeartbeats 1600000 in
theorem copyPoints_any (A : Option Addr) (n c : Nat) (L : List T2) (w : World) (hl : Row w A (L.flatMap T2.v)) (hn : L.length = n) (hx : n ≤ 1048577) (hnone : A = none → c = 0) : Calls Try.prog 63 #[.slice A n c] w fun e w' => ∃ (B : Option Addr) (d : Nat), e = .returned (.slice B n d) ∧ w'.ownsRow w.heap.size 35 2 (.slice B n d) n (L.flatMap T2.v) ∧ Ext w w' := by
  subst hn
  have HL := hid hl
  clear hl
  go_enter Try.func63, Try.ntmps63
  go_wp2_with (at_builtin; refine wpList_pushS w rfl (.tmp 3) (.tmp 4) 31 rfl 35 Try.underlying31 info_PointC rfl (by decide) _ 0 [] rfl (w.alloc (.cells #[] 35)) (own_empty _ _ _ (by simp) (Nat.le_refl _) 35 2) (by repeat (first | exact Ext.refl _ | refine Ext.alloc ?_ _ | assumption | refine Ext.over ?_ _ | refine Ext.drew ?_ | refine Ext.drewN ?_ _)) (by repeat (first | exact Ext.refl _ | refine Ext.alloc ?_ _ | assumption | refine Ext.over ?_ _ | refine Ext.drew ?_ | refine Ext.drewN ?_ _)) A L.length c (L.flatMap T2.v) rfl hnone (by rw [flat_len _ 2 T2.len]) (HL.out.ext (by repeat (first | exact Ext.refl _ | refine Ext.alloc ?_ _ | assumption | refine Ext.over ?_ _ | refine Ext.drew ?_ | refine Ext.drewN ?_ _))) oneP (by omega) (by decide) ?_)
  intro A2 c2 w2 ho he
  have HO := hid (show w2.ownsRow w.heap.size 35 2 (.slice A2 L.length c2) L.length (L.flatMap T2.v) by simpa using ho)
  have HE := hid he
  clear ho he
  go_wp2_with fail
  go_ret
  exact ⟨A2, c2, rfl, own_ext HO.out (by repeat (first | exact Ext.refl _ | refine Ext.alloc ?_ _ | assumption | refine Ext.over ?_ _ | refine Ext.drew ?_ | refine Ext.drewN ?_ _)), HE.out.trans (by repeat (first | exact Ext.refl _ | refine Ext.alloc ?_ _ | assumption | refine Ext.over ?_ _ | refine Ext.drew ?_ | refine Ext.drewN ?_ _))⟩
end Go.Proofs.Ytkifapcegiajiaa
