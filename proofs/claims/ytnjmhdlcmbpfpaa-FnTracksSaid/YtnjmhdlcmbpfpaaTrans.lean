/- 'Can be the same' is transitive; the largest set of sightings apart, over masks, is the number of tracks. No condition. -/
import Derived.Test.YtnjmhdlcmbpfpaaDil
import Derived.Test.YtnjmhdlcmbpfpaaApart
namespace Go.Proofs.Ytnjmhdlcmbpfpaa

theorem sq_le_of {a b : Int} (hb : 0 ≤ b) (h : a * a ≤ b * b) : a ≤ b := by
  rcases Int.lt_or_le b a with h1 | h1
  · have k1 : b * b ≤ b * a := Int.mul_le_mul_of_nonneg_left (by omega) hb
    have k2 : b * a < a * a := Int.mul_lt_mul_of_pos_right h1 (by omega)
    omega
  · exact h1
theorem cauchy {x1 y1 x2 y2 r1 r2 : Int} (h1 : 0 ≤ r1) (h2 : 0 ≤ r2) (e1 : x1 * x1 + y1 * y1 ≤ r1 * r1) (e2 : x2 * x2 + y2 * y2 ≤ r2 * r2) : (x1 + x2) * (x1 + x2) + (y1 + y2) * (y1 + y2) ≤ (r1 + r2) * (r1 + r2) := by
  have k1 : (x1 * x1 + y1 * y1) * (x2 * x2 + y2 * y2) ≤ (r1 * r1) * (r2 * r2) :=
    Int.mul_le_mul e1 e2 (Int.add_nonneg (self_nonneg _) (self_nonneg _)) (self_nonneg _)
  have k2 : (x1 * x2 + y1 * y2) * (x1 * x2 + y1 * y2) ≤ (x1 * x1 + y1 * y1) * (x2 * x2 + y2 * y2) := by
    have := self_nonneg (x1 * y2 - x2 * y1)
    have e : (x1 * x1 + y1 * y1) * (x2 * x2 + y2 * y2) = (x1 * x2 + y1 * y2) * (x1 * x2 + y1 * y2) + (x1 * y2 - x2 * y1) * (x1 * y2 - x2 * y1) := by
      simp only [Int.mul_add, Int.mul_sub, Int.mul_left_comm, Int.mul_comm]
      omega
    omega
  have k3 : x1 * x2 + y1 * y2 ≤ r1 * r2 := sq_le_of (Int.mul_nonneg h1 h2) (by
    have e : r1 * r2 * (r1 * r2) = r1 * r1 * (r2 * r2) := by simp only [Int.mul_assoc, Int.mul_left_comm]
    omega)
  have e1' : (x1 + x2) * (x1 + x2) = x1 * x1 + 2 * (x1 * x2) + x2 * x2 := by simp only [Int.mul_add, Int.mul_comm]; omega
  have e2' : (y1 + y2) * (y1 + y2) = y1 * y1 + 2 * (y1 * y2) + y2 * y2 := by simp only [Int.mul_add, Int.mul_comm]; omega
  have e3' : (r1 + r2) * (r1 + r2) = r1 * r1 + 2 * (r1 * r2) + r2 * r2 := by simp only [Int.mul_add, Int.mul_comm]; omega
  omega
theorem canBe_trans {a x y a' x' y' a'' x'' y'' s : Int} (h1 : canBe a x y a' x' y' s = true) (h2 : canBe a' x' y' a'' x'' y'' s = true) : canBe a x y a'' x'' y'' s = true := by
  unfold canBe at *
  simp only [Bool.and_eq_true, decide_eq_true_eq] at *
  obtain ⟨⟨⟨⟨p1, p2⟩, p3⟩, p4⟩, p5⟩ := h1
  obtain ⟨⟨⟨⟨q1, q2⟩, q3⟩, q4⟩, q5⟩ := h2
  have hs := btw_iff.1 p3
  refine ⟨⟨⟨⟨p1, q2⟩, p3⟩, by omega⟩, ?_⟩
  unfold sq at *
  have := cauchy (Int.mul_nonneg (by omega) (by omega)) (Int.mul_nonneg (by omega) (by omega)) p5 q5
  rw [← Int.mul_add] at this
  have e1 : x - x' + (x' - x'') = x - x'' := by omega
  have e2 : y - y' + (y' - y'') = y - y'' := by omega
  have e3 : a' - a + (a'' - a') = a'' - a := by omega
  rw [e1, e2, e3] at this
  exact this
theorem cb_trans {l : List T3} {s : Int} {i j k : Nat} (h1 : cb l s i j = true) (h2 : cb l s j k = true) : cb l s i k = true := canBe_trans h1 h2
def maskOf (p : Nat → Bool) : Nat → Nat
  | 0 => 0
  | k + 1 => if p k then 2 ^ k + maskOf p k else maskOf p k
theorem maskOf_lt (p : Nat → Bool) (k : Nat) : maskOf p k < 2 ^ k := by
  induction k with
  | zero => simp [maskOf]
  | succ k ih =>
    unfold maskOf
    rw [Nat.pow_succ]
    split <;> omega
theorem maskOf_bit (p : Nat → Bool) (k i : Nat) (h : i < k) : (maskOf p k).testBit i = p i := by
  induction k with
  | zero => omega
  | succ k ih =>
    unfold maskOf
    have hz := Nat.testBit_lt_two_pow (maskOf_lt p k)
    by_cases e : i = k
    · subst e
      split
      · rename_i hp
        rw [Nat.testBit_two_pow_add_eq, hz, hp]; rfl
      · rename_i hp
        rw [hz]; simpa using hp
    · split
      · rw [Nat.testBit_two_pow_add_gt (by omega)]; exact ih (by omega)
      · exact ih (by omega)
theorem cnt_filter (S n : Nat) : cnt S n = (((List.range n).filter (fun i => S.testBit i)).length : Int) := by
  induction n with
  | zero => rfl
  | succ n ih =>
    rw [cnt, List.range_succ, List.filter_append, ih]
    cases h : S.testBit n <;> simp [h]
theorem aparts_iff {l : List T3} {s : Int} {S : Nat} : aparts l s S l.length = true ↔ ∀ u v, u < l.length → v < l.length → S.testBit u = true → S.testBit v = true → cb l s u v = false := by
  unfold aparts offs
  simp only [allN_iff, Bool.or_eq_true, Bool.not_eq_true']
  constructor
  · intro h u v hu hv pu pv
    rcases h u hu with h1 | h1
    · rw [pu] at h1; cases h1
    · rcases h1 v hv with h2 | h2
      · rw [pv] at h2; cases h2
      · exact h2
  · intro h i hi
    cases hb : S.testBit i
    · exact .inl rfl
    · refine .inr fun k hk => ?_
      cases hc : S.testBit k
      · exact .inl rfl
      · exact .inr (h i k hi hk hb hc)
theorem mostTo_ge {l : List T3} {s : Int} {S : Nat} (ha : aparts l s S l.length = true) : ∀ N, S < N → cnt S l.length ≤ mostTo l s N
  | 0, h => by omega
  | N + 1, h => by
    by_cases e : S = N
    · subst e
      rw [mostTo_yes ha]
      unfold gmax; split <;> omega
    · have := mostTo_ge ha N (by omega)
      cases hb : aparts l s N l.length
      · rw [mostTo_no hb]; exact this
      · rw [mostTo_yes hb]; unfold gmax; split <;> omega
theorem most_tracks (l : List T3) (s : Int) : mostTo l s (2 ^ l.length) = Match.tracks (cb l s) l.length := by
  obtain ⟨⟨p, h1, h2⟩, h3⟩ := Match.tracks_dil (c := cb l s) (n := l.length) (fun u v x _ _ _ a b => cb_trans a b)
  have hup : ∀ N, mostTo l s N ≤ Match.tracks (cb l s) l.length := by
    intro N
    induction N with
    | zero =>
      have := h3 (fun _ => false) (by intro u v _ _ h; cases h)
      simp only [mostTo]
      omega
    | succ N ih =>
      cases hb : aparts l s N l.length
      · rw [mostTo_no hb]; exact ih
      · have := h3 (fun i => N.testBit i) (fun u v hu hv pu pv => aparts_iff.1 hb u v hu hv pu pv)
        rw [mostTo_yes hb, cnt_filter]
        unfold gmax; split <;> omega
  have hS := maskOf_lt p l.length
  have ha : aparts l s (maskOf p l.length) l.length = true := aparts_iff.2 fun u v hu hv pu pv => h1 u v hu hv (by rwa [maskOf_bit p _ _ hu] at pu) (by rwa [maskOf_bit p _ _ hv] at pv)
  have hge := mostTo_ge ha _ hS
  have hc : ((List.range l.length).filter (fun i => (maskOf p l.length).testBit i)) = (List.range l.length).filter p :=
    List.filter_congr fun i hi => maskOf_bit p _ _ (List.mem_range.1 hi)
  rw [cnt_filter, hc] at hge
  have := hup (2 ^ l.length)
  omega
theorem most_fewest (l : List T3) (s : Int) : most l s = if sights l s then Match.tracks (cb l s) l.length else -1 := by
  rw [most, most_tracks]
end Go.Proofs.Ytnjmhdlcmbpfpaa
