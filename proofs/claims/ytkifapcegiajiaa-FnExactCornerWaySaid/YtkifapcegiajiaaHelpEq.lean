/- Walks of the helpers of the laws at []int. No condition but sizes. -/
import Derived.Test.YtkifapcegiajiaaRows
import Derived.Test.YtkifapcegiajiaaRowM
import Derived.Test.YtkifapcegiajiaaPush
namespace Go.Proofs.Ytkifapcegiajiaa
open Go.RowKit
theorem eqIntS_same (A B : Option Addr) (n c d : Nat) (l : List Int) (w : World) (hl : Row w A (l.map (Value.int .i64))) (hl' : Row w B (l.map (Value.int .i64))) (hn : l.length = n) (hx : n ≤ 9223372036854775807) :
    Gives Try.prog 11 #[.slice A n c, .slice B n d] w (.bool true) := by
  subst hn
  (unfold Gives; go_enter Try.func11, Try.ntmps11)
  go_wp2_with fail
  go_loopw [5] (fun i wr => ∃ (k : Nat), k ≤ l.length ∧ i = .int .i64 k ∧ Ext w wr) (fun i _ => l.length - (intOf i).toNat)
  case atStart => exact ⟨0, by omega, rfl, Ext.refl _⟩
  case round =>
    obtain ⟨k, hk, rfl, he⟩ := hrel
    have HE := hid he
    by_cases hlt : k < l.length
    · obtain ⟨b, off, hA, hc⟩ := (hl.ext he).ints hlt
      subst hA
      have c0 := hc k hlt
      obtain ⟨b', off', hB, hc'⟩ := (hl'.ext he).ints hlt
      subst hB
      have d0 := hc' k hlt
      clear hc hc' he hl hl'
      go_wp2_with fail
      (refine wp_region_calm (by kernel_rfl) (by kernel_rfl) ?_; (repeat (go_big_quiet_step (fail))); refine wpQuiet_nil ?_; rintro w1 ⟨x1, rfl⟩)
      go_wp2_with fail
      go_roundw
      case rel => exact ⟨k + 1, by omega, by go_num, HE.out.over _⟩
      case measure => simp only [intOf]; omega
    · go_wp2_with fail
      go_ret
      exact ⟨rfl, HE.out⟩
end Go.Proofs.Ytkifapcegiajiaa
