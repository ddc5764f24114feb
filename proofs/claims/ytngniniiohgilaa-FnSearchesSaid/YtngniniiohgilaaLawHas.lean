/- Walks of the helpers of the laws: whether a number stands in a list. Conditions: sizes. -/
import Derived.Test.YtngniniiohgilaaInts
namespace Go.Proofs.Ytngniniiohgilaa
open Go.RowKit
set_option linter.unusedVariables false

set_option maxHeartbeats 1600000 in
theorem has_any (A : Option Addr) (n c : Nat) (l : List Int) (v : Int) (w : World) (hl : Row w A (l.map (Value.int .i64))) (hn : l.length = n) (hx : n ≤ 1048577) :
    Gives Try.prog 13 #[.slice A n c, .int .i64 v] w (.bool (memI l v)) := by
  subst hn
  (unfold Gives; go_enter Try.func13, Try.ntmps13)
  go_wp2_with fail
  go_loopw [5] (fun i wr => ∃ (k : Nat), (∀ j, j < k → (atI l j == v) = false) ∧ k ≤ l.length ∧ i = .int .i64 ↑k ∧ Ext w wr) (fun i _ => (l.length - (intOf i).toNat))
  case atStart => exact ⟨0, by omega, by omega, rfl, Ext.refl _⟩
  case round =>
    obtain ⟨k, hk, hkn, rfl, he⟩ := hrel
    have HK := hid hk
    have HE := hid he
    have hL := hl.ext he
    clear hk
    by_cases hlt : k < l.length
    · obtain ⟨b, off, rfl, hc⟩ := hL.ints hlt
      have c1 := hc k hlt
      clear hc he hl hL
      cases hv : (atI l k == v)
      · go_wp2_with fail
        go_roundw
        case rel => exact ⟨k + 1, lt_succ_all HK.out hv, by omega, by go_num, HE.out.trans (by repeat (first | exact Ext.refl _ | refine Ext.alloc ?_ _ | assumption | refine Ext.over ?_ _ | refine Ext.drew ?_ | refine Ext.drewN ?_ _))⟩
        case measure => simp [intOf]; omega
      · have HB := hid (memI_yes hlt hv)
        go_wp2_with fail
        go_ret
        exact ⟨by rw [HB.out]; rfl, HE.out.trans (by repeat (first | exact Ext.refl _ | refine Ext.alloc ?_ _ | assumption | refine Ext.over ?_ _ | refine Ext.drew ?_ | refine Ext.drewN ?_ _))⟩
    · have HB := hid (memI_cons_no.2 (fun j hj => HK.out j (by omega)))
      go_wp2_with fail
      go_ret
      exact ⟨by rw [HB.out]; rfl, HE.out⟩
end Go.Proofs.Ytngniniiohgilaa
