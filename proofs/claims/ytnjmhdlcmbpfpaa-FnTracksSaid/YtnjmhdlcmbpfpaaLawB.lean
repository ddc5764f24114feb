/- Walks of the helpers of the laws that draw. Conditions: sizes. -/
import Derived.Test.YtnjmhdlcmbpfpaaDraw2
namespace Go.Proofs.Ytnjmhdlcmbpfpaa
open Go.RowKit
set_option linter.unusedVariables false

theorem big_any (A : Option Addr) (n c : Nat) (w : World) : Gives Try.prog 5 #[.slice A n c] w (.bool (decide ((1048576 : Int) < n))) := by
  (unfold Gives; go_enter Try.func5, Try.ntmps5)
  go_wp2_with fail
  go_ret
  exact ⟨rfl, by repeat (first | exact Ext.refl _ | refine Ext.alloc ?_ _ | assumption | refine Ext.over ?_ _ | refine Ext.drew ?_ | refine Ext.drewN ?_ _)⟩
/-- A number out of the bytes. -/
def atV (bs : List Int) (i : Nat) : Int := if bs.length = 0 then 0 else bs.getD ((i * 5 + 1) % bs.length) 0
theorem atV_bound {bs : List Int} (hz : ∀ z ∈ bs, 0 ≤ z ∧ z ≤ 255) (i : Nat) : 0 ≤ atV bs i ∧ atV bs i ≤ 255 := by
  unfold atV
  split
  · omega
  · rename_i h
    have hlt : (i * 5 + 1) % bs.length < bs.length := Nat.mod_lt _ (by omega)
    rw [List.getD_eq_getElem?_getD, List.getElem?_eq_getElem hlt]
    exact hz _ (List.getElem_mem hlt)
end Go.Proofs.Ytnjmhdlcmbpfpaa
