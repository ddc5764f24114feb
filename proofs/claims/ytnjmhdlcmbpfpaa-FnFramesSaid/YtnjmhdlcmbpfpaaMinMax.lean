/- Walks: slices.Min and slices.Max at []int. Conditions: not empty, length within int. -/
import Derived.Test.YtnjmhdlcmbpfpaaSlices
namespace Go.Proofs.Ytnjmhdlcmbpfpaa
open Go.RowKit
theorem Min_any (A : Option Addr) (n c : Nat) (l : List Int) (w : World) (hl : Row w A (l.map (Value.int .i64))) (hn : l.length = n) (hx : n ≤ 9223372036854775807) (h0 : 0 < n) :
    Gives Try.prog 19 #[.slice A n c] w (.int .i64 (minTo l n)) := by
  subst hn
  have hb : ¬ ((l.length : Int) < 1) := by omega
  obtain ⟨b, off, hA, hc⟩ := hl.ints h0
  subst hA
  have c0 := hc 0 h0
  rw [Nat.add_zero] at c0
  unfold Gives
  go_enter Try.func19, Try.ntmps19
  go_wp2_with fail
  go_loopw [3, 4] (fun m i wr => ∃ (k : Nat), 1 ≤ k ∧ k ≤ l.length ∧ i = .int .i64 ↑k ∧ m = .int .i64 (minTo l k) ∧ Ext w wr) (fun _ i _ => (l.length - (intOf i).toNat))
  case atStart => exact ⟨1, by omega, by omega, rfl, by rw [minTo_one], Ext.refl _⟩
  case round =>
    obtain ⟨k, h1, hkn, rfl, rfl, he⟩ := hrel
    obtain ⟨x, rfl⟩ := he.ex
    by_cases hlt : k < l.length
    · have c1 := hc k hlt
      clear hc
      go_wp2_with fail
      go_roundw
      case rel =>
        refine ⟨k + 1, by omega, by omega, by go_num, rfl, ?_⟩
        repeat (first | exact Ext.refl _ | refine Ext.alloc ?_ _ | assumption | refine Ext.over ?_ _ | refine Ext.drew ?_ | refine Ext.drewN ?_ _)
      case measure => simp [intOf]; omega
    · clear hc
      go_wp2_with fail
      go_ret
      obtain rfl : k = l.length := by omega
      exact ⟨rfl, he⟩
theorem Max_any (A : Option Addr) (n c : Nat) (l : List Int) (w : World) (hl : Row w A (l.map (Value.int .i64))) (hn : l.length = n) (hx : n ≤ 9223372036854775807) (h0 : 0 < n) :
    Gives Try.prog 20 #[.slice A n c] w (.int .i64 (maxTo l n)) := by
  subst hn
  have hb : ¬ ((l.length : Int) < 1) := by omega
  obtain ⟨b, off, hA, hc⟩ := hl.ints h0
  subst hA
  have c0 := hc 0 h0
  rw [Nat.add_zero] at c0
  unfold Gives
  go_enter Try.func20, Try.ntmps20
  go_wp2_with fail
  go_loopw [3, 4] (fun m i wr => ∃ (k : Nat), 1 ≤ k ∧ k ≤ l.length ∧ i = .int .i64 ↑k ∧ m = .int .i64 (maxTo l k) ∧ Ext w wr) (fun _ i _ => (l.length - (intOf i).toNat))
  case atStart => exact ⟨1, by omega, by omega, rfl, by rw [maxTo_one], Ext.refl _⟩
  case round =>
    obtain ⟨k, h1, hkn, rfl, rfl, he⟩ := hrel
    obtain ⟨x, rfl⟩ := he.ex
    by_cases hlt : k < l.length
    · have c1 := hc k hlt
      clear hc
      go_wp2_with fail
      go_roundw
      case rel =>
        refine ⟨k + 1, by omega, by omega, by go_num, rfl, ?_⟩
        repeat (first | exact Ext.refl _ | refine Ext.alloc ?_ _ | assumption | refine Ext.over ?_ _ | refine Ext.drew ?_ | refine Ext.drewN ?_ _)
      case measure => simp [intOf]; omega
    · clear hc
      go_wp2_with fail
      go_ret
      obtain rfl : k = l.length := by omega
      exact ⟨rfl, he⟩
end Go.Proofs.Ytnjmhdlcmbpfpaa
