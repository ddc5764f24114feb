/- Walks of the helpers of the laws: marks. No condition but sizes. -/
import Derived.Test.YtmghngdafgebjaaRows
import Derived.Test.YtmghngdafgebjaaRowM
import Derived.Test.YtmghngdafgebjaaPush
namespace Go.Proofs.Ytmghngdafgebjaa
open Go.RowKit
theorem heldPointS_ok (A : Option Addr) (n c : Nat) (q : Int) (w : World) (hl : Row w A ((mks2 q n).flatMap T2.v)) (hx : n ≤ 8388608) (hq : 0 ≤ q) (hq' : q ≤ 100000000) :
    Gives Try.prog 27 #[.slice A n c, .int .i64 q] w (.int .i64 (q + 2 * n)) := by
  (unfold Gives; go_enter Try.func27, Try.ntmps27)
  go_wp2_with fail
  go_loopw [1, 5] (fun q' i wr => ∃ (k : Nat), k ≤ n ∧ i = .int .i64 k ∧ q' = .int .i64 (q + 2 * k) ∧ Ext w wr) (fun _ i _ => n - (intOf i).toNat)
  case atStart => exact ⟨0, by omega, rfl, by simp, Ext.refl _⟩
  case round =>
    obtain ⟨k, hk, rfl, rfl, he⟩ := hrel
    have HE := hid he
    by_cases hlt : k < n
    · obtain ⟨b, off, hA, hc⟩ := (hl.ext he).t2 (i := k) (by rw [mks2_len]; exact hlt)
      subst hA
      obtain ⟨c0, c1⟩ := hc k (by rw [mks2_len]; exact hlt)
      rw [mks2_at q n k hlt] at c0 c1
      clear hc he hl
      go_wp2_with fail
      go_roundw
      case rel => exact ⟨k + 1, by omega, by go_num, by go_num, HE.out⟩
      case measure => simp only [intOf]; omega
    · go_wp2_with fail
      go_ret
      obtain rfl : k = n := by omega
      exact ⟨rfl, HE.out⟩
end Go.Proofs.Ytmghngdafgebjaa
