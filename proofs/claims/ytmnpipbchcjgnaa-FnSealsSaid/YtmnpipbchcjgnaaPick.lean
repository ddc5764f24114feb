/- Walks: a number of a list is drawn. Conditions: 1 to 256 numbers, which lie apart from the cursor. -/
import Derived.Test.YtmnpipbchcjgnaaDraw2
namespace Go.Proofs.Ytmnpipbchcjgnaa
open Go.RowKit
set_option linter.unusedVariables false

set_option maxRecDepth 100000 in
set_option maxHeartbeats 1600000 in
theorem PickInt_any (g : Nat) (A : Option Addr) (n c : Nat) (xs : List Int) (w : World) (hc : Cur w g) (hr : Row w A (xs.map (Value.int .i64))) (hn : xs.length = n) (h1 : 1 ≤ n) (h2 : n ≤ 256) (hA : ∀ b off, A = some ⟨b, off, none⟩ → b ≠ g) :
    Calls Try.prog 34 #[.pointer (some ⟨g, 0, none⟩), .slice A n c] w fun e w' => ∃ v, e = .returned (.int .i64 v) ∧ v ∈ xs ∧ Drawn w w' g := by
  subst hn
  have HR := hid hr
  have HC := hid hc
  clear hr hc
  go_enter Try.func34, Try.ntmps34
  go_wp2_with fail
  refine (l01Below_any g xs.length w HC.out (by omega)).mono ?_
  rintro _ w1 ⟨v, rfl, v0, v1, hd⟩
  obtain ⟨k, rfl⟩ : ∃ k : Nat, v = k := ⟨v.toNat, by omega⟩
  have hk : k < xs.length := by omega
  have hk' : (k : Int) < xs.length := by omega
  have HR1 := hid (hd.row HR.out hA)
  obtain ⟨b, off, hB, hcell⟩ := HR1.out.ints hk
  have c0 := hcell k hk
  have HD := hid hd
  have HM := hid (show atI xs k ∈ xs by rw [atI_eq _ _ hk]; exact List.getElem_mem hk)
  subst hB
  clear hd hcell
  go_wp2_with fail
  go_ret
  exact ⟨atI xs k, rfl, HM.out, HD.out⟩
end Go.Proofs.Ytmnpipbchcjgnaa
