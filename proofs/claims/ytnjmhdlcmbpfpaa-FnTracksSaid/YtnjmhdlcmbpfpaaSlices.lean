/- Walks: functions of package slices at []int. Conditions: lengths within int; Min and Max: not empty. -/
import Derived.Test.YtnjmhdlcmbpfpaaRows
import Derived.Test.YtnjmhdlcmbpfpaaPush
namespace Go.Proofs.Ytnjmhdlcmbpfpaa
open Go.RowKit

def idxOf (l : List Int) (v : Int) : Int := firstN l.length (fun k => v == atI l k)
def memI (l : List Int) (v : Int) : Bool := decide (0 ≤ idxOf l v)
theorem firstN_ge (n : Nat) (p : Nat → Bool) : -1 ≤ firstN n p ∧ firstN n p < 9223372036854775807 ∨ 9223372036854775807 ≤ n := by
  rcases Nat.lt_or_ge n 9223372036854775807 with h | h
  · left
    unfold firstN
    split
    · rename_i k hk
      have := List.mem_of_find?_eq_some hk
      simp at this
      omega
    · omega
  · exact .inr h
theorem firstN_nonneg {n : Nat} {p : Nat → Bool} : 0 ≤ firstN n p ↔ ∃ k, k < n ∧ p k = true := by
  unfold firstN
  split
  · rename_i k hk
    have h1 := List.mem_of_find?_eq_some hk
    have h2 := List.find?_some hk
    simp at h1
    constructor
    · intro _; exact ⟨k, h1, h2⟩
    · intro _; omega
  · rename_i hk
    rw [List.find?_eq_none] at hk
    constructor
    · intro h; omega
    · rintro ⟨k, h1, h2⟩
      exact absurd h2 (by simpa using hk k (by simpa using h1))
theorem memI_iff {l : List Int} {v : Int} : memI l v = true ↔ v ∈ l := by
  unfold memI idxOf
  rw [decide_eq_true_eq, firstN_nonneg]
  constructor
  · rintro ⟨k, hk, h⟩
    rw [beq_iff_eq] at h
    rw [h, atI_eq l k hk]
    exact List.getElem_mem hk
  · intro h
    obtain ⟨k, hk, e⟩ := List.getElem_of_mem h
    exact ⟨k, hk, by rw [beq_iff_eq, atI_eq l k hk, e]⟩

theorem Index_any (A : Option Addr) (n c : Nat) (l : List Int) (v : Int) (w : World) (hl : Row w A (l.map (Value.int .i64))) (hn : l.length = n) (hx : n ≤ 9223372036854775807) :
    Gives Try.prog 31 #[.slice A n c, .int .i64 v] w (.int .i64 (idxOf l v)) := by
  subst hn
  unfold Gives
  go_enter Try.func31, Try.ntmps31
  go_wp2_with fail
  go_loopw [8] (fun i wr => ∃ (k : Nat), (∀ j, j < k → (v == atI l j) = false) ∧ k ≤ l.length ∧ i = .int .i64 ↑k ∧ Ext w wr) (fun i _ => (l.length - (intOf i).toNat))
  case atStart => exact ⟨0, by omega, by omega, rfl, Ext.refl _⟩
  case round =>
    obtain ⟨k, hk, hkn, rfl, he⟩ := hrel
    have HK := hid hk
    obtain ⟨x, rfl⟩ := he.ex
    clear hk
    by_cases hlt : k < l.length
    · obtain ⟨b, off, rfl, hc⟩ := hl.ints hlt
      have c1 := hc k hlt
      clear hc
      cases hv : (v == atI l k)
      · go_wp2_with fail
        go_roundw
        case rel =>
          refine ⟨k + 1, lt_succ_all HK.out hv, by omega, by go_num, ?_⟩
          repeat (first | exact Ext.refl _ | refine Ext.alloc ?_ _ | assumption | refine Ext.over ?_ _ | refine Ext.drew ?_ | refine Ext.drewN ?_ _)
        case measure => simp [intOf]; omega
      · go_wp2_with fail
        go_ret
        refine ⟨by rw [idxOf, firstN_hit HK.out hlt hv]; rfl, ?_⟩
        repeat (first | exact Ext.refl _ | refine Ext.alloc ?_ _ | assumption | refine Ext.over ?_ _ | refine Ext.drew ?_ | refine Ext.drewN ?_ _)
    · go_wp2_with fail
      go_ret
      exact ⟨by rw [idxOf, firstN_none (fun j hj => HK.out j (by omega))]; rfl, he⟩
theorem Contains_any (A : Option Addr) (n c : Nat) (l : List Int) (v : Int) (w : World) (hl : Row w A (l.map (Value.int .i64))) (hn : l.length = n) (hx : n ≤ 9223372036854775807) :
    Gives Try.prog 21 #[.slice A n c, .int .i64 v] w (.bool (memI l v)) := by
  unfold Gives memI
  go_enter Try.func21, Try.ntmps21
  go_wp2_with (go_at_call 31; refine (Index_any _ _ _ l _ _ (hl.ext (by repeat (first | exact Ext.refl _ | refine Ext.alloc ?_ _ | assumption | refine Ext.over ?_ _ | refine Ext.drew ?_ | refine Ext.drewN ?_ _))) hn hx).over.mono ?_; rintro e w' ⟨rfl, xw, rfl⟩)
  all_goals (go_ret; refine ⟨by first | rfl | (go_tidy; simp_all; done) | (go_tidy; simp at *; omega), ?_⟩; repeat (first | exact Ext.refl _ | refine Ext.alloc ?_ _ | assumption | refine Ext.over ?_ _ | refine Ext.drew ?_ | refine Ext.drewN ?_ _))

/-- Go's min and max, as the walk writes them. -/
def gmin (x y : Int) : Int := if y < x then y else x
def gmax (x y : Int) : Int := if x < y then y else x
theorem gmin_eq (x y : Int) : gmin x y = min x y := by unfold gmin; split <;> omega
theorem gmax_eq (x y : Int) : gmax x y = max x y := by unfold gmax; split <;> omega
def minTo (l : List Int) : Nat → Int
  | 0 => atI l 0
  | k + 1 => gmin (minTo l k) (atI l k)
def maxTo (l : List Int) : Nat → Int
  | 0 => atI l 0
  | k + 1 => gmax (maxTo l k) (atI l k)
theorem minTo_one (l : List Int) : minTo l 1 = atI l 0 := by unfold minTo minTo gmin; split <;> omega
theorem maxTo_one (l : List Int) : maxTo l 1 = atI l 0 := by unfold maxTo maxTo gmax; split <;> omega
end Go.Proofs.Ytnjmhdlcmbpfpaa
