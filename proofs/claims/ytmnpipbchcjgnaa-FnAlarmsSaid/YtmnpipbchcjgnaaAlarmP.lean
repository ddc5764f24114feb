/- Plain law of FnAlarms: what the alarms and the quiet ones are; and the walk of the laws' has. Conditions: drawn zones and reports. -/
import Derived.Test.YtmnpipbchcjgnaaDrawAl
import Derived.Test.YtmnpipbchcjgnaaCalm
namespace Go.Proofs.Ytmnpipbchcjgnaa
open Go.RowKit
set_option linter.unusedVariables false

def hasB (l : List Int) (v : Int) : Bool := decide (v ∈ l)
theorem atI_mem {l : List Int} {k : Nat} (h : k < l.length) : atI l k ∈ l := by rw [atI_eq _ _ h]; exact List.getElem_mem h
theorem hasB_yes {l : List Int} {v : Int} {k : Nat} (hk : k < l.length) (h : (atI l k == v) = true) : hasB l v = true := by
  unfold hasB
  have : atI l k = v := by simpa using h
  rw [← this]; exact decide_eq_true (atI_mem hk)
theorem hasB_no {l : List Int} {v : Int} (h : ∀ j, j < l.length → (atI l j == v) = false) : hasB l v = false := by
  unfold hasB
  refine decide_eq_false fun hm => ?_
  obtain ⟨j, hj, e⟩ := List.getElem_of_mem hm
  have := h j hj
  rw [atI_eq _ _ hj, e] at this
  simp at this
set_option maxHeartbeats 1600000 in
theorem has_any (A : Option Addr) (n c : Nat) (l : List Int) (v : Int) (w : World) (hl : Row w A (l.map (Value.int .i64))) (hn : l.length = n) (hx : n ≤ 1048577) :
    Gives Try.prog 18 #[.slice A n c, .int .i64 v] w (.bool (hasB l v)) := by
  subst hn
  (unfold Gives; go_enter Try.func18, Try.ntmps18)
  go_wp2_with fail
  go_loopw [5] (fun i wr => ∃ (k : Nat), (∀ j, j < k → (atI l j == v) = false) ∧ k ≤ l.length ∧ i = .int .i64 ↑k ∧ Ext w wr) (fun i _ => (l.length - (intOf i).toNat))
  case atStart => exact ⟨0, by omega, by omega, rfl, Ext.refl _⟩
  case round =>
    obtain ⟨k, hk, hkn, rfl, he⟩ := hrel
    have HK := hid hk
    have HE := hid he
    have hL := hl.ext he
    clear hk
    by_cases hlt : k < l.length
    · obtain ⟨b, off, rfl, hc⟩ := hL.ints hlt
      have c1 := hc k hlt
      clear hc he hl hL
      cases hv : (atI l k == v)
      · have HN := hid (show ∀ j, j < k + 1 → (atI l j == v) = false from fun j hj => by
          by_cases h : j = k
          · rw [h]; exact hv
          · exact HK.out j (by omega))
        go_wp2_with fail
        go_roundw
        case rel => exact ⟨k + 1, HN.out, by omega, by go_num, HE.out.trans (by repeat (first | exact Ext.refl _ | refine Ext.alloc ?_ _ | assumption | refine Ext.over ?_ _ | refine Ext.drew ?_ | refine Ext.drewN ?_ _))⟩
        case measure => simp [intOf]; omega
      · have HB := hid (hasB_yes hlt hv)
        go_wp2_with fail
        go_ret
        exact ⟨by rw [HB.out]; rfl, HE.out.trans (by repeat (first | exact Ext.refl _ | refine Ext.alloc ?_ _ | assumption | refine Ext.over ?_ _ | refine Ext.drew ?_ | refine Ext.drewN ?_ _))⟩
    · have HB := hid (hasB_no (l := l) (v := v) (fun j hj => HK.out j (by omega)))
      go_wp2_with fail
      go_ret
      exact ⟨by rw [HB.out]; rfl, HE.out⟩
section
variable {z r : List T3} {p : Int}
theorem alarms_has {k : Nat} (hk : k < r.length) : hasB (alarms z r) k = raisesAt z r k := by
  unfold hasB alarms
  cases h : raisesAt z r k
  · refine decide_eq_false fun hm => ?_
    obtain ⟨j, e, _, hj⟩ := idxs_mem.1 hm
    obtain rfl : k = j := by omega
    rw [h] at hj; cases hj
  · exact decide_eq_true (idxs_mem.2 ⟨k, rfl, hk, h⟩)
theorem idxs_sorted (q : Nat → Bool) : ∀ n, (idxs q n).Pairwise (· < ·)
  | 0 => by simp [idxs]
  | n + 1 => by
    cases h : q n
    · rw [idxs_no h]; exact idxs_sorted q n
    · rw [idxs_yes h, List.pairwise_append]
      refine ⟨idxs_sorted q n, by simp, fun x hx y hy => ?_⟩
      obtain ⟨j, rfl, hj, _⟩ := idxs_mem.1 hx
      obtain rfl : y = n := by simpa using hy
      omega
theorem quietTo_sub : ∀ {k : Nat}, k ≤ (alarms z r).length → (quietTo z r p k).Sublist ((alarms z r).take k)
  | 0, _ => by simp [quietTo]
  | k + 1, hk => by
    rw [quietTo_succ (by omega), List.take_succ_eq_append_getElem (by omega), ← atI_eq _ _ (by omega)]
    have ih := quietTo_sub (k := k) (by omega)
    unfold qStep
    split
    · exact ih.trans (List.sublist_append_left _ _)
    · exact ih.append (List.Sublist.refl _)
theorem quiets_sorted : (quiets z r p).Pairwise (· < ·) := by
  unfold quiets
  split
  · simp
  · have h := quietTo_sub (z := z) (r := r) (p := p) (k := (alarms z r).length) (Nat.le_refl _)
    rw [List.take_length] at h
    exact (idxs_sorted _ _).sublist h
theorem quiets_up {k : Nat} (h0 : 1 ≤ k) (h : k < (quiets z r p).length) : atI (quiets z r p) (k - 1) < atI (quiets z r p) k := by
  rw [atI_eq _ _ (by omega), atI_eq _ _ h]
  exact List.pairwise_iff_getElem.1 quiets_sorted (k - 1) k (by omega) h (by omega)
theorem quiets_in {k : Nat} (h : k < (quiets z r p).length) : atI (quiets z r p) k ∈ alarms z r := by
  have hm := atI_mem h
  generalize atI (quiets z r p) k = x at hm ⊢
  unfold quiets at hm
  split at hm
  · cases hm
  · exact quietTo_mem (Nat.le_refl _) x hm
theorem al_at {k : Nat} (h : k < (alarms z r).length) : ∃ j : Nat, atI (alarms z r) k = j ∧ j < r.length := by
  obtain ⟨j, e, hj, _⟩ := alarms_ix (atI_mem h)
  exact ⟨j, e, hj⟩
theorem qu_at {k : Nat} (h : k < (quiets z r p).length) : ∃ j : Nat, atI (quiets z r p) k = j ∧ j < r.length := by
  obtain ⟨j, e, hj, _⟩ := alarms_ix (quiets_in h)
  exact ⟨j, e, hj⟩
/-- The report at x is near the one at y. -/
def nearAt (r : List T3) (p : Int) (x y : Int) : Bool := (at3 r x.toNat).a == (at3 r y.toNat).a && decide (max ((at3 r x.toNat).c - (at3 r y.toNat).c) ((at3 r y.toNat).c - (at3 r x.toNat).c) ≤ p)
theorem near_grow {out : List Int} {i y : Int} (h : ∃ x ∈ out, nearAt r p x y = true) : ∃ x ∈ qStep r p out i, nearAt r p x y = true := by
  obtain ⟨x, hx, hn⟩ := h
  refine ⟨x, ?_, hn⟩
  unfold qStep
  split
  · exact hx
  · exact List.mem_append_left _ hx
theorem near_new {out : List Int} {i : Int} (hp : 0 ≤ p) : ∃ x ∈ qStep r p out i, nearAt r p x i = true := by
  unfold qStep
  split
  · rename_i h
    obtain ⟨x, hx, ht⟩ := List.any_eq_true.1 h
    refine ⟨x, hx, ?_⟩
    unfold tired at ht
    unfold nearAt
    simp only [Bool.and_eq_true, btw_iff, decide_eq_true_eq] at ht ⊢
    exact ⟨ht.1, by omega⟩
  · refine ⟨i, by simp, ?_⟩
    unfold nearAt
    simp only [Bool.and_eq_true, decide_eq_true_eq]
    exact ⟨by simp, by omega⟩
theorem near_to (hp : 0 ≤ p) : ∀ k, k ≤ (alarms z r).length → ∀ j, j < k → ∃ x ∈ quietTo z r p k, nearAt r p x (atI (alarms z r) j) = true
  | 0, _, j, hj => by omega
  | k + 1, hk, j, hj => by
    rw [quietTo_succ (by omega)]
    rcases Nat.lt_or_ge j k with h | h
    · exact near_grow (near_to hp k (by omega) j h)
    · obtain rfl : j = k := by omega
      exact near_new hp
def nearN (f : Nat → Bool) : Nat → Bool
  | 0 => false
  | k + 1 => nearN f k || f k
theorem nearN_yes {f : Nat → Bool} {i : Nat} (h : f i = true) : ∀ k, i < k → nearN f k = true
  | k + 1, hk => by
    unfold nearN
    rcases Nat.lt_or_ge i k with h1 | h1
    · rw [nearN_yes h k h1]; rfl
    · obtain rfl : i = k := by omega
      rw [h, Bool.or_true]
def nearQ (z r : List T3) (p y : Int) (i : Nat) : Bool := nearAt r p (atI (quiets z r p) i) y
theorem near_all (hp : 0 ≤ p) {j : Nat} (hj : j < (alarms z r).length) : nearN (nearQ z r p (atI (alarms z r) j)) (quiets z r p).length = true := by
  obtain ⟨x, hx, hn⟩ := near_to (z := z) (r := r) hp (alarms z r).length (Nat.le_refl _) j hj
  have hq : quiets z r p = quietTo z r p (alarms z r).length := by unfold quiets; rw [if_neg (by omega)]
  rw [← hq] at hx
  obtain ⟨i, hi, e⟩ := List.getElem_of_mem hx
  refine nearN_yes (i := i) ?_ _ hi
  unfold nearQ
  rw [atI_eq _ _ hi, e]; exact hn
theorem calmTo_0 (l : List Int) : ∀ k, 0 ≤ calmTo l k
  | 0 => Int.le_refl _
  | k + 1 => by
    have := calmTo_0 l k
    unfold calmTo gmx
    split
    · split <;> omega
    · exact this
theorem calm_0 : 0 ≤ calm z r := by
  unfold calm
  split
  · omega
  · exact calmTo_0 _ _
theorem calm_one (h : (alarms z r).length ≤ 1) : calm z r = 0 := by
  have h1 := calm_0 (z := z) (r := r)
  have h2 : calm z r ≤ 0 := by
    unfold calm
    split
    · omega
    · refine calm_le (Int.le_refl _) _ fun j hj hn => ?_
      rw [moms_len] at hj
      obtain rfl : j = 0 := by omega
      have hl : (moms z r).length = 1 := by rw [moms_len]; omega
      unfold next at hn ⊢
      rw [hl] at hn ⊢
      unfold nextTo nextTo at hn ⊢
      rw [if_neg (by omega)] at hn
      omega
  omega
end
end Go.Proofs.Ytmnpipbchcjgnaa
