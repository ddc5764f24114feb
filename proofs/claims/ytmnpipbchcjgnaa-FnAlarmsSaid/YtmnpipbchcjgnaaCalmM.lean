/- Plain law: the longest gap between a number of a list and the next larger one is the longest gap between neighbours of the sorted list. Condition: no number is negative. -/
import Derived.Test.YtmnpipbchcjgnaaRow
namespace Go.Proofs.Ytmnpipbchcjgnaa
set_option linter.unusedVariables false

/-- The next larger number, as the reference finds it. -/
def nextTo (l : List Int) (a : Int) : Nat → Int
  | 0 => -1
  | k + 1 => if a < atI l k ∧ (nextTo l a k < 0 ∨ atI l k < nextTo l a k) then atI l k else nextTo l a k
theorem nextTo_spec (l : List Int) (a : Int) (h0 : ∀ x ∈ l, 0 ≤ x) : ∀ k, k ≤ l.length →
    (nextTo l a k = -1 ∧ ∀ j, j < k → atI l j ≤ a) ∨ (∃ j, j < k ∧ nextTo l a k = atI l j ∧ a < atI l j ∧ ∀ i, i < k → a < atI l i → atI l j ≤ atI l i) := by
  intro k
  induction k with
  | zero => intro _; exact .inl ⟨rfl, by omega⟩
  | succ k ih =>
    intro hk
    have hx : 0 ≤ atI l k := by rw [atI_eq l k (by omega)]; exact h0 _ (List.getElem_mem _)
    rcases ih (by omega) with ⟨h1, h2⟩ | ⟨j, h1, h2, h3, h4⟩
    · by_cases h : a < atI l k
      · refine .inr ⟨k, by omega, ?_, h, fun i hi hai => ?_⟩
        · unfold nextTo; rw [if_pos ⟨h, .inl (by omega)⟩]
        · rcases Nat.lt_or_ge i k with h' | h'
          · have := h2 i h'; omega
          · obtain rfl : i = k := by omega
            omega
      · refine .inl ⟨?_, fun j hj => ?_⟩
        · unfold nextTo; rw [if_neg (fun c => h c.1)]; exact h1
        · rcases Nat.lt_or_ge j k with h' | h'
          · exact h2 j h'
          · obtain rfl : j = k := by omega
            omega
    · have hj0 : 0 ≤ atI l j := by rw [atI_eq l j (by omega)]; exact h0 _ (List.getElem_mem _)
      by_cases h : a < atI l k ∧ atI l k < atI l j
      · refine .inr ⟨k, by omega, ?_, h.1, fun i hi hai => ?_⟩
        · unfold nextTo; rw [if_pos ⟨h.1, .inr (by omega)⟩]
        · rcases Nat.lt_or_ge i k with h' | h'
          · have := h4 i h' hai; omega
          · obtain rfl : i = k := by omega
            omega
      · refine .inr ⟨j, by omega, ?_, h3, fun i hi hai => ?_⟩
        · unfold nextTo; rw [if_neg (fun c => h ⟨c.1, by rcases c.2 with c | c <;> omega⟩)]; exact h2
        · rcases Nat.lt_or_ge i k with h' | h'
          · exact h4 i h' hai
          · obtain rfl : i = k := by omega
            omega
def next (l : List Int) (a : Int) : Int := nextTo l a l.length
def gmx (x y : Int) : Int := if x < y then y else x
/-- The reference's answer after k rounds. -/
def calmTo (l : List Int) : Nat → Int
  | 0 => 0
  | k + 1 => if 0 ≤ next l (atI l k) then gmx (calmTo l k) (next l (atI l k) - atI l k) else calmTo l k
/-- The program's answer: neighbours of a sorted list. -/
def adjTo (s : List Int) : Nat → Int
  | 0 => 0
  | k + 1 => gmx (adjTo s k) (atI s (k + 1) - atI s k)
theorem calm_le {l : List Int} {M : Int} (h0 : 0 ≤ M) : ∀ k, (∀ j, j < k → 0 ≤ next l (atI l j) → next l (atI l j) - atI l j ≤ M) → calmTo l k ≤ M
  | 0, _ => h0
  | k + 1, h => by
    have := calm_le h0 k (fun j hj => h j (by omega))
    unfold calmTo gmx
    split
    · have := h k (by omega) ‹_›
      split <;> omega
    · exact this
theorem adj_le {s : List Int} {M : Int} (h0 : 0 ≤ M) : ∀ k, (∀ j, j < k → atI s (j + 1) - atI s j ≤ M) → adjTo s k ≤ M
  | 0, _ => h0
  | k + 1, h => by
    have := adj_le h0 k (fun j hj => h j (by omega))
    have := h k (by omega)
    unfold adjTo gmx
    split <;> omega
theorem calm_ge {l : List Int} : ∀ k, 0 ≤ calmTo l k ∧ ∀ j, j < k → 0 ≤ next l (atI l j) → next l (atI l j) - atI l j ≤ calmTo l k
  | 0 => ⟨Int.le_refl _, by omega⟩
  | k + 1 => by
    obtain ⟨h1, h2⟩ := calm_ge (l := l) k
    unfold calmTo gmx
    by_cases hn : 0 ≤ next l (atI l k)
    · rw [if_pos hn]
      refine ⟨by split <;> omega, fun j hj hp => ?_⟩
      rcases Nat.lt_or_ge j k with h | h
      · have := h2 j h hp; split <;> omega
      · obtain rfl : j = k := by omega
        split <;> omega
    · rw [if_neg hn]
      refine ⟨h1, fun j hj hp => ?_⟩
      rcases Nat.lt_or_ge j k with h | h
      · exact h2 j h hp
      · obtain rfl : j = k := by omega
        exact absurd hp hn
theorem adj_ge {s : List Int} : ∀ k, 0 ≤ adjTo s k ∧ ∀ j, j < k → atI s (j + 1) - atI s j ≤ adjTo s k
  | 0 => ⟨Int.le_refl _, by omega⟩
  | k + 1 => by
    obtain ⟨h1, h2⟩ := adj_ge (s := s) k
    unfold adjTo gmx
    refine ⟨by split <;> omega, fun j hj => ?_⟩
    rcases Nat.lt_or_ge j k with h | h
    · have := h2 j h; split <;> omega
    · obtain rfl : j = k := by omega
      split <;> omega
theorem sorted_at {s : List Int} (h : s.Pairwise (· ≤ ·)) {i j : Nat} (hij : i ≤ j) (hj : j < s.length) : atI s i ≤ atI s j := by
  rw [atI_eq _ _ (by omega), atI_eq _ _ hj]
  rcases Nat.lt_or_ge i j with h' | h'
  · exact List.pairwise_iff_getElem.1 h i j (by omega) hj h'
  · obtain rfl : i = j := by omega
    exact Int.le_refl _
theorem mem_at {l : List Int} {x : Int} : x ∈ l ↔ ∃ j, j < l.length ∧ atI l j = x := by
  constructor
  · intro h
    obtain ⟨j, hj, e⟩ := List.getElem_of_mem h
    exact ⟨j, hj, by rw [atI_eq _ _ hj, e]⟩
  · rintro ⟨j, hj, rfl⟩
    rw [atI_eq _ _ hj]; exact List.getElem_mem _
/-- The first place of a sorted list that holds x. -/
theorem first_at {s : List Int} {x : Int} (h : x ∈ s) : ∃ j, j < s.length ∧ atI s j = x ∧ ∀ i, i < j → atI s i ≠ x := by
  obtain ⟨j, hj, e⟩ := mem_at.1 h
  induction j using Nat.strongRecOn with
  | _ j ih =>
    by_cases hex : ∃ i, i < j ∧ atI s i = x
    · obtain ⟨i, hi, e'⟩ := hex
      exact ih i hi (by omega) e'
    · exact ⟨j, hj, e, fun i hi h' => hex ⟨i, hi, h'⟩⟩
theorem calm_eq {l s : List Int} (hp : s.Perm l) (hs : s.Pairwise (· ≤ ·)) (h0 : ∀ x ∈ l, 0 ≤ x) : adjTo s (s.length - 1) = calmTo l l.length := by
  have hlen := hp.length_eq
  apply Int.le_antisymm
  · refine adj_le (calm_ge _).1 _ (fun j hj => ?_)
    rcases Int.lt_or_le (atI s j) (atI s (j + 1)) with hlt | hge
    · have ha : atI s j ∈ l := hp.subset (mem_at.2 ⟨j, by omega, rfl⟩)
      obtain ⟨q, hq, eq⟩ := mem_at.1 ha
      have hb : atI s (j + 1) ∈ l := hp.subset (mem_at.2 ⟨j + 1, by omega, rfl⟩)
      obtain ⟨t, ht, et⟩ := mem_at.1 hb
      have hx0 := h0 _ hb
      have key : next l (atI l q) = atI s (j + 1) := by
        rw [eq]
        rcases nextTo_spec l (atI s j) h0 l.length (Nat.le_refl _) with ⟨_, h2⟩ | ⟨i, h1, h2, h3, h4⟩
        · have := h2 t ht; omega
        · unfold next
          rw [h2]
          apply Int.le_antisymm
          · have := h4 t ht (by omega); omega
          · obtain ⟨p, hpp, ep⟩ := mem_at.1 (hp.symm.subset (mem_at.2 ⟨i, h1, rfl⟩))
            rw [← ep] at h3 ⊢
            rcases Nat.lt_or_ge j p with h | h
            · exact sorted_at hs h hpp
            · have := sorted_at hs h (by omega); omega
      have := (calm_ge (l := l) l.length).2 q hq (by rw [key]; exact hx0)
      rw [key, eq] at this
      exact this
    · have := (calm_ge (l := l) l.length).1
      omega
  · refine calm_le (adj_ge _).1 _ (fun j hj hn => ?_)
    rcases nextTo_spec l (atI l j) h0 l.length (Nat.le_refl _) with ⟨h1, _⟩ | ⟨i, h1, h2, h3, h4⟩
    · unfold next at hn; omega
    · have hb : atI l i ∈ s := hp.symm.subset (mem_at.2 ⟨i, h1, rfl⟩)
      obtain ⟨q, hq, eq, hmin⟩ := first_at hb
      obtain ⟨p, hpp, ep⟩ := mem_at.1 (hp.symm.subset (mem_at.2 ⟨j, hj, rfl⟩))
      have hpq : p < q := by
        rcases Nat.lt_or_ge p q with h | h
        · exact h
        · have := sorted_at hs h hpp; omega
      obtain ⟨t, rfl⟩ : ∃ t, q = t + 1 := ⟨q - 1, by omega⟩
      have hge : atI l j ≤ atI s t := by rw [← ep]; exact sorted_at hs (by omega) (by omega)
      have hlt : atI s t < atI l i := by
        have h5 := sorted_at hs (show t ≤ t + 1 by omega) hq
        have h6 := hmin t (by omega)
        omega
      have hle : atI s t ≤ atI l j := by
        rcases Int.lt_or_le (atI l j) (atI s t) with h | h
        · obtain ⟨u, hu, eu⟩ := mem_at.1 (hp.subset (mem_at.2 ⟨t, by omega, rfl⟩))
          have := h4 u hu (by omega)
          omega
        · exact h
      have := (adj_ge (s := s) (s.length - 1)).2 t (by omega)
      unfold next
      rw [h2]
      omega
end Go.Proofs.Ytmnpipbchcjgnaa
