/- Walks: slices.Contains at []int. Conditions: lengths within int. -/
import Derived.Test.YtngniniiohgilaaRows
import Derived.Test.YtngniniiohgilaaPush
namespace Go.Proofs.Ytngniniiohgilaa
open Go.RowKit

def idxOf (l : List Int) (v : Int) : Int := firstN l.length (fun k => v == atI l k)
def memI (l : List Int) (v : Int) : Bool := decide (0 ≤ idxOf l v)
theorem firstN_ge (n : Nat) (p : Nat → Bool) : -1 ≤ firstN n p ∧ firstN n p < 9223372036854775807 ∨ 9223372036854775807 ≤ n := by
  rcases Nat.lt_or_ge n 9223372036854775807 with h | h
  · left
    unfold firstN
    split
    · rename_i k hk
      have := List.mem_of_find?_eq_some hk
      simp at this
      omega
    · omega
  · exact .inr h
theorem firstN_nonneg {n : Nat} {p : Nat → Bool} : 0 ≤ firstN n p ↔ ∃ k, k < n ∧ p k = true := by
  unfold firstN
  split
  · rename_i k hk
    have h1 := List.mem_of_find?_eq_some hk
    have h2 := List.find?_some hk
    simp at h1
    constructor
    · intro _; exact ⟨k, h1, h2⟩
    · intro _; omega
  · rename_i hk
    rw [List.find?_eq_none] at hk
    constructor
    · intro h; omega
    · rintro ⟨k, h1, h2⟩
      exact absurd h2 (by simpa using hk k (by simpa using h1))
theorem memI_iff {l : List Int} {v : Int} : memI l v = true ↔ v ∈ l := by
  unfold memI idxOf
  rw [decide_eq_true_eq, firstN_nonneg]
  constructor
  · rintro ⟨k, hk, h⟩
    rw [beq_iff_eq] at h
    rw [h, atI_eq l k hk]
    exact List.getElem_mem hk
  · intro h
    obtain ⟨k, hk, e⟩ := List.getElem_of_mem h
    exact ⟨k, hk, by rw [beq_iff_eq, atI_eq l k hk, e]⟩

theorem Index_any (A : Option Addr) (n c : Nat) (l : List Int) (v : Int) (w : World) (hl : Row w A (l.map (Value.int .i64))) (hn : l.length = n) (hx : n ≤ 9223372036854775807) :
    Gives Try.prog 75 #[.slice A n c, .int .i64 v] w (.int .i64 (idxOf l v)) := by
  subst hn
  unfold Gives
  go_enter Try.func75, Try.ntmps75
  go_wp2_with fail
  go_loopw [8] (fun i wr => ∃ (k : Nat), (∀ j, j < k → (v == atI l j) = false) ∧ k ≤ l.length ∧ i = .int .i64 ↑k ∧ Ext w wr) (fun i _ => (l.length - (intOf i).toNat))
  case atStart => exact ⟨0, by omega, by omega, rfl, Ext.refl _⟩
  case round =>
    obtain ⟨k, hk, hkn, rfl, he⟩ := hrel
    have HK := hid hk
    obtain ⟨x, rfl⟩ := he.ex
    clear hk
    by_cases hlt : k < l.length
    · obtain ⟨b, off, rfl, hc⟩ := hl.ints hlt
      have c1 := hc k hlt
      clear hc
      cases hv : (v == atI l k)
      · go_wp2_with fail
        go_roundw
        case rel =>
          refine ⟨k + 1, lt_succ_all HK.out hv, by omega, by go_num, ?_⟩
          repeat (first | exact Ext.refl _ | refine Ext.alloc ?_ _ | assumption | refine Ext.over ?_ _ | refine Ext.drew ?_ | refine Ext.drewN ?_ _)
        case measure => simp [intOf]; omega
      · go_wp2_with fail
        go_ret
        refine ⟨by rw [idxOf, firstN_hit HK.out hlt hv]; rfl, ?_⟩
        repeat (first | exact Ext.refl _ | refine Ext.alloc ?_ _ | assumption | refine Ext.over ?_ _ | refine Ext.drew ?_ | refine Ext.drewN ?_ _)
    · go_wp2_with fail
      go_ret
      exact ⟨by rw [idxOf, firstN_none (fun j hj => HK.out j (by omega))]; rfl, he⟩
theorem Contains_any (A : Option Addr) (n c : Nat) (l : List Int) (v : Int) (w : World) (hl : Row w A (l.map (Value.int .i64))) (hn : l.length = n) (hx : n ≤ 9223372036854775807) :
    Gives Try.prog 49 #[.slice A n c, .int .i64 v] w (.bool (memI l v)) := by
  unfold Gives memI
  go_enter Try.func49, Try.ntmps49
  go_wp2_with (go_at_call 75; refine (Index_any _ _ _ l _ _ (hl.ext (by repeat (first | exact Ext.refl _ | refine Ext.alloc ?_ _ | assumption | refine Ext.over ?_ _ | refine Ext.drew ?_ | refine Ext.drewN ?_ _))) hn hx).over.mono ?_; rintro e w' ⟨rfl, xw, rfl⟩)
  all_goals (go_ret; refine ⟨by first | rfl | (go_tidy; simp_all; done) | (go_tidy; simp at *; omega), ?_⟩; repeat (first | exact Ext.refl _ | refine Ext.alloc ?_ _ | assumption | refine Ext.over ?_ _ | refine Ext.drew ?_ | refine Ext.drewN ?_ _))

theorem memI_take {l : List Int} {v : Int} {k : Nat} (h : k < l.length) : memI (l.take (k + 1)) v = (memI (l.take k) v || v == atI l k) := by
  rw [Bool.eq_iff_iff, memI_iff, Bool.or_eq_true, memI_iff, beq_iff_eq, List.take_succ_eq_append_getElem h, List.mem_append, List.mem_singleton, atI_eq _ _ h]
theorem memI_cons_no {l : List Int} {v : Int} : memI l v = false ↔ ∀ k, k < l.length → (atI l k == v) = false := by
  rw [Bool.eq_false_iff, Ne, memI_iff]
  constructor
  · intro h k hk
    rw [beq_eq_false_iff_ne]
    rintro rfl
    exact h (by rw [atI_eq _ _ hk]; exact List.getElem_mem hk)
  · intro h hm
    obtain ⟨k, hk, rfl⟩ := List.getElem_of_mem hm
    have := h k hk
    rw [atI_eq _ _ hk] at this
    simp at this
theorem memI_yes {l : List Int} {v : Int} {k : Nat} (hk : k < l.length) (h : (atI l k == v) = true) : memI l v = true := by
  rw [memI_iff, ← beq_iff_eq.1 h, atI_eq _ _ hk]; exact List.getElem_mem hk
theorem Row.take {w : World} {A : Option Addr} {l : List Int} (h : Row w A (l.map (Value.int .i64))) (k : Nat) : Row w A ((l.take k).map (Value.int .i64)) := by
  intro hn
  have hne : l.map (Value.int .i64) ≠ [] := fun e => hn (by
    have : l = [] := List.map_eq_nil_iff.1 e
    subst this; simp)
  obtain ⟨b, off, hA, hc⟩ := h hne
  refine ⟨b, off, hA, fun j u hu => hc j u ?_⟩
  rw [List.map_take, List.getElem?_take] at hu
  split at hu
  · exact hu
  · cases hu
theorem own_cap {w : World} {base n c size : Nat} {e : TypeId} {A : Option Addr} {xs : List Value} (h : w.ownsRow base e size (.slice A n c) n xs) : n ≤ c := by
  rcases h.2 with ⟨hv, hn⟩ | ⟨g, cap, cur, hv, hb, hg, hn, hm, hs, ht⟩
  · omega
  · injection hv with h1 h2 h3
    omega
end Go.Proofs.Ytngniniiohgilaa
