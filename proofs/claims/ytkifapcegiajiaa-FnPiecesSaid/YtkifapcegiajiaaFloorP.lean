/- Plain law: the points of a floor; its corners are among them. No condition. -/
import Derived.Test.YtkifapcegiajiaaFloor
import Derived.Test.YtkifapcegiajiaaSymm
namespace Go.Proofs.Ytkifapcegiajiaa
open Go.RowKit
set_option linter.unusedVariables false

/-- A point of the floor of a valid room. -/
def onFloor (L : List T2) (p : T2) : Prop := pokT p = true ∧ ¬ placeI L p = 0
theorem rowF_mem {L : List T2} {y x0 : Int} {k : Nat} {p : T2} (h : p ∈ rowF L y x0 k) : p.b = y ∧ x0 ≤ p.a ∧ p.a < x0 + k ∧ inF L p = true := by
  unfold rowF at h
  rw [List.mem_filter, List.mem_map] at h
  obtain ⟨⟨j, hj, rfl⟩, h2⟩ := h
  have hj' : j < k := by simpa using hj
  exact ⟨rfl, by show x0 ≤ x0 + (j : Int); omega, by show x0 + (j : Int) < x0 + k; omega, h2⟩
theorem flo_mem {L : List T2} {x0 y0 : Int} {m : Nat} {p : T2} : ∀ {k : Nat}, p ∈ flo L x0 y0 m k → (y0 ≤ p.b ∧ p.b < y0 + k) ∧ (x0 ≤ p.a ∧ p.a < x0 + m) ∧ inF L p = true
  | 0, h => by simp [flo] at h
  | k + 1, h => by
    simp only [flo, List.mem_append] at h
    rcases h with h | h
    · have := flo_mem h; exact ⟨by omega, this.2⟩
    · have := rowF_mem h; exact ⟨by omega, by omega, this.2.2.2⟩
theorem floor_on {L : List T2} (hr : roomS L = true) {p : T2} (h : p ∈ floorL L) : onFloor L p := by
  have hb := box_bound (roomP_of hr) L.length (Nat.le_refl _)
  unfold floorL at h
  have hm := flo_mem h
  unfold wid hei at hm
  refine ⟨?_, fun e => ?_⟩
  · unfold pokT; rw [pok_iff]; omega
  · have := hm.2.2; unfold inF at this; rw [e] at this; cases this
theorem floor_at {L : List T2} (hr : roomS L = true) {k : Nat} (hk : k < (floorL L).length) : onFloor L (at2 (floorL L) k) := by
  rw [at2_eq _ _ hk]; exact floor_on hr (List.getElem_mem hk)
theorem floor_len {L : List T2} (hr : roomS L = true) : (floorL L).length ≤ 7000 := by
  have hb := box_bound (roomP_of hr) L.length (Nat.le_refl _)
  have h1 := flo_len L (lowX L L.length) (lowY L L.length) (wid L) (hei L)
  have h2 : wid L ≤ 81 := by unfold wid; omega
  have h3 : hei L ≤ 81 := by unfold hei; omega
  have h4 := Nat.mul_le_mul h3 h2
  unfold floorL; omega
theorem rowF_in {L : List T2} {y x0 : Int} {k : Nat} {p : T2} (h1 : p.b = y) (h2 : x0 ≤ p.a ∧ p.a < x0 + k) (h3 : inF L p = true) : p ∈ rowF L y x0 k := by
  unfold rowF
  rw [List.mem_filter, List.mem_map]
  refine ⟨⟨(p.a - x0).toNat, by rw [List.mem_range]; omega, ?_⟩, h3⟩
  cases p
  simp only [T2.mk.injEq] at *
  omega
theorem flo_in {L : List T2} {x0 y0 : Int} {m : Nat} {p : T2} (h2 : x0 ≤ p.a ∧ p.a < x0 + m) (h3 : inF L p = true) : ∀ {k : Nat}, y0 ≤ p.b ∧ p.b < y0 + k → p ∈ flo L x0 y0 m k
  | 0, h => by omega
  | k + 1, h => by
    simp only [flo, List.mem_append]
    by_cases hk : p.b < y0 + k
    · exact .inl (flo_in h2 h3 ⟨h.1, hk⟩)
    · exact .inr (rowF_in (by omega) h2 h3)
theorem mnF_le {f : Nat → Int} {z : Int} : ∀ k j, j < k → mnF f z k ≤ f j
  | 0, j, h => by omega
  | k + 1, j, h => by
    simp only [mnF]
    rcases Nat.lt_or_ge j k with h' | h'
    · have := mnF_le (f := f) (z := z) k j h'; omega
    · obtain rfl : j = k := by omega
      omega
theorem mxF_ge {f : Nat → Int} {z : Int} : ∀ k j, j < k → f j ≤ mxF f z k
  | 0, j, h => by omega
  | k + 1, j, h => by
    simp only [mxF]
    rcases Nat.lt_or_ge j k with h' | h'
    · have := mxF_ge (f := f) (z := z) k j h'; omega
    · obtain rfl : j = k := by omega
      omega
theorem corner_floor {L : List T2} (hr : roomS L = true) {k : Nat} (hk : k < L.length) : at2 L k ∈ floorL L := by
  have hb := box_bound (roomP_of hr) L.length (Nat.le_refl _)
  have h1 := mnF_le (f := xs L) (z := xs L 0) L.length k hk
  have h2 := mxF_ge (f := xs L) (z := xs L 0) L.length k hk
  have h3 := mnF_le (f := ys L) (z := ys L 0) L.length k hk
  have h4 := mxF_ge (f := ys L) (z := ys L 0) L.length k hk
  have hin : inF L (at2 L k) = true := by unfold inF; rw [place_corner (roomP_of hr) hk]; rfl
  unfold floorL
  unfold lowX higX lowY higY at hb
  change _ ≤ (at2 L k).a at h1
  change (at2 L k).a ≤ _ at h2
  change _ ≤ (at2 L k).b at h3
  change (at2 L k).b ≤ _ at h4
  refine flo_in ?_ hin ?_
  · unfold wid lowX higX; omega
  · unfold hei lowY higY; omega
end Go.Proofs.Ytkifapcegiajiaa
