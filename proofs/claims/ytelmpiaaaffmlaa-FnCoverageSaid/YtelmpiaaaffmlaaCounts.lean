/- Walks: the reference's counts of cameras at each point of a floor. Conditions: a valid room, points of its floor. -/
import Derived.Test.YtelmpiaaaffmlaaLeast
namespace Go.Proofs.Ytelmpiaaaffmlaa
open Go.RowKit
set_option linter.unusedVariables false

def cAt (L : List T2) (C : List T7) (F : List T2) (j k : Nat) : Nat := cntN (fun c => filmR L (at7 C c) (at2 F j)) k
def rowC (L : List T2) (C : List T7) (F : List T2) (k i : Nat) : List Int := (List.range F.length).map fun j => (cAt L C F j (if j < i then k + 1 else k) : Int)
theorem rowC_len (L : List T2) (C : List T7) (F : List T2) (k i : Nat) : (rowC L C F k i).length = F.length := by simp [rowC]
theorem rowC_at {L : List T2} {C : List T7} {F : List T2} {k i j : Nat} (hj : j < F.length) : (rowC L C F k i)[j]? = some ((cAt L C F j (if j < i then k + 1 else k) : Nat) : Int) := by
  unfold rowC; rw [List.getElem?_map, List.getElem?_range hj]; rfl
theorem rowC_zero (L : List T2) (C : List T7) (F : List T2) : rowC L C F 0 0 = List.replicate F.length 0 := by
  apply List.ext_getElem?
  intro j
  rcases Nat.lt_or_ge j F.length with h | h
  · rw [rowC_at h, List.getElem?_replicate, if_pos h, if_neg (by omega)]; rfl
  · rw [List.getElem?_eq_none (by rw [rowC_len]; exact h), List.getElem?_eq_none (by simpa using h)]
theorem rowC_full (L : List T2) (C : List T7) (F : List T2) (k : Nat) : rowC L C F k F.length = rowC L C F (k + 1) 0 := by
  apply List.ext_getElem?
  intro j
  rcases Nat.lt_or_ge j F.length with h | h
  · rw [rowC_at h, rowC_at h, if_pos h, if_neg (by omega)]
  · rw [List.getElem?_eq_none (by rw [rowC_len]; exact h), List.getElem?_eq_none (by rw [rowC_len]; exact h)]
theorem rowC_no {L : List T2} {C : List T7} {F : List T2} {k i : Nat} (h : filmR L (at7 C k) (at2 F i) = false) : rowC L C F k (i + 1) = rowC L C F k i := by
  apply List.ext_getElem?
  intro j
  rcases Nat.lt_or_ge j F.length with hj | hj
  · rw [rowC_at hj, rowC_at hj]
    rcases Nat.lt_or_ge j i with h1 | h1
    · rw [if_pos (by omega), if_pos h1]
    · by_cases h2 : j = i
      · subst h2
        rw [if_pos (by omega), if_neg (by omega)]
        unfold cAt
        rw [cntN_no h]
      · rw [if_neg (by omega), if_neg (by omega)]
  · rw [List.getElem?_eq_none (by rw [rowC_len]; exact hj), List.getElem?_eq_none (by rw [rowC_len]; exact hj)]
theorem rowC_yes {L : List T2} {C : List T7} {F : List T2} {k i : Nat} (hi : i < F.length) (h : filmR L (at7 C k) (at2 F i) = true) : rowC L C F k (i + 1) = (rowC L C F k i).set i ((cAt L C F i k : Nat) + 1 : Int) := by
  apply List.ext_getElem?
  intro j
  rcases Nat.lt_or_ge j F.length with hj | hj
  · by_cases h2 : i = j
    · subst h2
      rw [List.getElem?_set_self (by rw [rowC_len]; exact hi), rowC_at hj, if_pos (by omega)]
      unfold cAt
      rw [cntN_yes h]
      simp
    · rw [List.getElem?_set_ne h2, rowC_at hj, rowC_at hj]
      rcases Nat.lt_or_ge j i with h1 | h1
      · rw [if_pos (by omega), if_pos h1]
      · rw [if_neg (by omega), if_neg (by omega)]
  · rw [List.getElem?_eq_none (by rw [rowC_len]; exact hj), List.getElem?_eq_none (by rw [List.length_set, rowC_len]; exact hj)]
theorem rowC_skip {L : List T2} {C : List T7} {F : List T2} {k : Nat} (h : ∀ i, i < F.length → filmR L (at7 C k) (at2 F i) = false) : rowC L C F (k + 1) 0 = rowC L C F k 0 := by
  rw [← rowC_full]
  have : ∀ i, i ≤ F.length → rowC L C F k i = rowC L C F k 0 := by
    intro i
    induction i with
    | zero => intro _; rfl
    | succ i ih => intro hi; rw [rowC_no (h i (by omega)), ih (by omega)]
  exact this _ (Nat.le_refl _)
end Go.Proofs.Ytelmpiaaaffmlaa
