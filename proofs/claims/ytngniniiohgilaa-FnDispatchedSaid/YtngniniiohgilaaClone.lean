/- Walks: slices.Clone at []int. Conditions: sizes. -/
import Derived.Test.YtngniniiohgilaaLinks
import Derived.Test.YtngniniiohgilaaInts
namespace Go.Proofs.Ytngniniiohgilaa
open Go.RowKit
set_option linter.unusedVariables false

theorem eqNilS' (w : World) : (binOp .eql 31 (.slice none 0 0) (.slice none 0 0)).run Try.prog w = .ok (.bool true) w := by kernel_rfl
theorem eqSomeS' (p : Addr) (n c : Nat) (w : World) : (binOp .eql 31 (.slice (some p) n c) (.slice none 0 0)).run Try.prog w = .ok (.bool false) w := by kernel_rfl
theorem Clone_any (A : Option Addr) (n c : Nat) (l : List Int) (w : World) (hl : Row w A (l.map (Value.int .i64))) (hn : l.length = n) (hx : n ≤ 1048577) (hA : A = none → n = 0 ∧ c = 0) :
    Calls Try.prog 78 #[.slice A n c] w fun e w' => ∃ A' c', e = .returned (.slice A' n c') ∧ w'.ownsRow w.heap.size 3 1 (.slice A' n c') n (l.map (Value.int .i64)) ∧ Ext w w' := by
  have hnil := eqNilS'
  have hsome := eqSomeS'
  cases A with
  | none =>
    obtain ⟨rfl, rfl⟩ := hA rfl
    obtain rfl : l = [] := List.eq_nil_of_length_eq_zero hn
    go_enter Try.func78, Try.ntmps78
    go_wp2_with fail
    go_ret
    exact ⟨_, _, rfl, World.ownsRow_nil _ _ _ _, Ext.refl _⟩
  | some p =>
    go_enter Try.func78, Try.ntmps78
    go_wp2_with (at_builtin; refine wpList_pushS (w) rfl (.tmp 5) (.tmp 6) 31 rfl 3 Try.underlying31 info_int rfl (by decide) _ 0 [] rfl _ (own_empty w w.heap.size w.heap.size rfl (Nat.le_refl _) 3 1) (by repeat (first | exact Ext.refl _ | refine Ext.alloc ?_ _ | assumption | refine Ext.over ?_ _ | refine Ext.drew ?_ | refine Ext.drewN ?_ _)) (by repeat (first | exact Ext.refl _ | refine Ext.alloc ?_ _ | assumption | refine Ext.over ?_ _ | refine Ext.drew ?_ | refine Ext.drewN ?_ _)) (some p) n c (l.map (Value.int .i64)) rfl (by intro h; cases h) (by simp [hn]) (hl.ext (by repeat (first | exact Ext.refl _ | refine Ext.alloc ?_ _ | assumption | refine Ext.over ?_ _ | refine Ext.drew ?_ | refine Ext.drewN ?_ _))) (by intro u hu; obtain ⟨z, _, rfl⟩ := List.mem_map.1 hu; rfl) (by omega) (by decide) ?_)
    intro A' c' w' ho he
    have HO := hid ho
    have HE := hid he
    clear ho he
    go_wp2_with fail
    go_ret
    exact ⟨_, _, rfl, HO.out, HE.out⟩
end Go.Proofs.Ytngniniiohgilaa
