/- Plain law: cameras that cover a room. Conditions: a valid room, at most six cameras. -/
import Derived.Test.YtelmpiaaaffmlaaWeak
import Derived.Test.YtelmpiaaaffmlaaLeastS
import Derived.Test.YtelmpiaaaffmlaaFloorP
namespace Go.Proofs.Ytelmpiaaaffmlaa
open Go.RowKit
set_option linter.unusedVariables false

theorem cnt_count (q : T7 → Bool) (C : List T7) : ∀ k, k ≤ C.length → cntN (fun k => q (at7 C k)) k = (C.take k).countP q
  | 0, _ => by simp [cntN]
  | k + 1, h => by
    have ih := cnt_count q C k (by omega)
    rw [List.take_succ_eq_append_getElem (by omega), List.countP_append, ← ih]
    cases hq : q (at7 C k)
    · rw [cntN_no hq]; rw [at7_eq _ _ (by omega)] at hq; simp [hq]
    · rw [cntN_yes hq]; rw [at7_eq _ _ (by omega)] at hq; simp [hq]
theorem countR_P (L : List T2) (C : List T7) (p : T2) : countR L C p = C.countP (fun x => filmR L x p) := by
  unfold countR
  rw [cnt_count (fun x => filmR L x p) C C.length (Nat.le_refl _), List.take_length]
theorem countR_rest {L : List T2} {C : List T7} {p : T2} {k : Nat} (hk : k < C.length) : countR L C p = countR L (restN C k) p + (if filmR L (at7 C k) p then 1 else 0) := by
  rw [countR_P, countR_P]
  have h : C = C.take k ++ C[k] :: C.drop (k + 1) := by rw [List.getElem_cons_drop, List.take_append_drop]
  conv => lhs; rw [h]
  unfold restN
  rw [List.countP_append, List.countP_append, List.countP_cons, at7_eq _ _ hk]
  omega
theorem leastN_hit {L : List T2} {C : List T7} {F : List T2} : ∀ k, leastN L C F k = 0 → C.length = 0 ∨ ∃ j, j < k ∧ countR L C (at2 F j) = 0
  | 0, h => .inl h
  | k + 1, h => by
    simp only [leastN] at h
    by_cases h0 : countR L C (at2 F k) = 0
    · exact .inr ⟨k, by omega, h0⟩
    · rcases leastN_hit (L := L) (C := C) (F := F) k (by omega) with h1 | ⟨j, hj, h1⟩
      · exact .inl h1
      · exact .inr ⟨j, by omega, h1⟩
theorem leastN_le' {L : List T2} {C : List T7} {F : List T2} : ∀ k j, j < k → leastN L C F k ≤ countR L C (at2 F j)
  | 0, j, h => by omega
  | k + 1, j, h => by
    simp only [leastN]
    by_cases hj : j = k
    · subst hj; omega
    · have := leastN_le' (L := L) (C := C) (F := F) k j (by omega); omega
theorem wkTo_best {f : Nat → Nat} : ∀ {k i m : Nat}, wkTo f k = some (i, m) → ∀ j, j < k → f j ≤ m
  | 0, i, m, h => by simp [wkTo] at h
  | k + 1, i, m, h => by
    intro j hj
    simp only [wkTo] at h
    split at h
    · rename_i h'
      cases k with
      | zero =>
        injection h with h
        injection h with h1 h2
        obtain rfl : j = 0 := by omega
        exact Nat.le_of_eq h2
      | succ k => exfalso; simp only [wkTo] at h'; split at h' <;> (try split at h') <;> exact absurd h' (by simp)
    · rename_i i' m' h'
      have ih := wkTo_best h'
      by_cases hjk : j < k
      · have := ih j hjk
        split at h <;> (injection h with h; injection h with h1 h2; omega)
      · obtain rfl : j = k := by omega
        split at h <;> (injection h with h; injection h with h1 h2; omega)
theorem wkTo_some {f : Nat → Nat} {k : Nat} (h : 0 < k) : ∃ i m, wkTo f k = some (i, m) := by
  cases k with
  | zero => omega
  | succ k =>
    simp only [wkTo]
    split
    · exact ⟨_, _, rfl⟩
    · split <;> exact ⟨_, _, rfl⟩
set_option linter.unusedSectionVars false
section
variable {L : List T2} {C : List T7} (hr : roomS L = true) (hc : C.length ≤ 6)
include hr hc
theorem blind_is : blindL L C = (floorL L).filter (fun p => countR L C p == 0) := by
  unfold blindL; rw [hr, decide_eq_true hc]; rfl
theorem least_is : leastR L C = leastN L C (floorL L) (floorL L).length := by
  unfold leastR; rw [hr, decide_eq_true hc]; rfl
theorem floor_some : 0 < (floorL L).length := List.length_pos_of_mem (corner_floor hr (k := 0) (by have := (roomP_of hr).lo; omega))
theorem blind_least : 0 < (blindL L C).length ↔ leastR L C = 0 := by
  rw [blind_is hr hc, least_is hr hc]
  constructor
  · intro h
    obtain ⟨p, hp⟩ := List.exists_mem_of_length_pos h
    obtain ⟨h1, h2⟩ := List.mem_filter.1 hp
    obtain ⟨j, hj, rfl⟩ := List.getElem_of_mem h1
    have := leastN_le' (L := L) (C := C) (F := floorL L) _ j hj
    rw [at2_eq _ _ hj] at this
    have h3 : countR L C (floorL L)[j] = 0 := by simpa using h2
    omega
  · intro h
    have h := leastN_hit (L := L) (C := C) (F := floorL L) (floorL L).length (by omega)
    rcases h with h | ⟨j, hj, h⟩
    · have hf := floor_some hr hc
      refine List.length_pos_of_mem (a := (floorL L)[0]) (List.mem_filter.2 ⟨List.getElem_mem hf, ?_⟩)
      have := countR_le L C (floorL L)[0]
      simp; omega
    · rw [at2_eq _ _ hj] at h
      exact List.length_pos_of_mem (a := (floorL L)[j]) (List.mem_filter.2 ⟨List.getElem_mem hj, by simpa using h⟩)
theorem count_least {j : Nat} (hj : j < (floorL L).length) : leastR L C ≤ countR L C (at2 (floorL L) j) := by
  rw [least_is hr hc]; have := leastN_le' (L := L) (C := C) (F := floorL L) _ j hj; omega
theorem least_nn : 0 ≤ leastR L C := by rw [least_is hr hc]; omega
theorem rob_zero : robR L C 0 = decide ((blindL L C).length = 0) := by
  unfold robR
  have h := blind_least hr hc
  have h0 := least_nn hr hc
  by_cases hb : (blindL L C).length = 0
  · rw [decide_eq_true hb]
    have : 0 < leastR L C := by
      rcases Int.lt_or_eq_of_le h0 with h1 | h1
      · exact h1
      · have := h.2 h1.symm; omega
    simp [this]
  · rw [decide_eq_false hb]
    have : leastR L C = 0 := h.1 (by omega)
    simp [this]
theorem rob_least : robR L C (leastR L C) = false := by unfold robR; simp
theorem blind_all (h : C.length = 0) : (blindL L C).length = (floorL L).length := by
  rw [blind_is hr hc]
  congr 1
  refine List.filter_eq_self.2 fun p _ => ?_
  have := countR_le L C p
  simp; omega
theorem weak_none (h : C.length = 0) : weakR L C = -1 := by
  unfold weakR; rw [hr, decide_eq_true hc, h]; rfl
theorem weak_some (h : 0 < C.length) : ∃ i, i < C.length ∧ weakR L C = (i : Int) ∧ ∀ j, j < C.length → (blindL L (restN C j)).length ≤ (blindL L (restN C i)).length := by
  obtain ⟨i, m, hw⟩ := wkTo_some (f := blindN L C) h
  obtain ⟨h1, h2⟩ := wkTo_lt hw
  refine ⟨i, h1, by unfold weakR; rw [hr, decide_eq_true hc, hw]; rfl, fun j hj => ?_⟩
  have := wkTo_best hw j hj
  rw [h2] at this
  exact this
theorem blind_rest {k : Nat} (hk : k < C.length) : (blindL L C).length ≤ (blindL L (restN C k)).length := by
  have hc' : (restN C k).length ≤ 6 := by rw [restN_len hk]; omega
  rw [blind_is hr hc, blind_is hr hc', ← List.countP_eq_length_filter, ← List.countP_eq_length_filter]
  refine List.countP_mono_left fun p _ h => ?_
  have := countR_rest (L := L) (p := p) hk
  simp only [beq_iff_eq] at h ⊢
  omega
end
end Go.Proofs.Ytelmpiaaaffmlaa
